/- The plain law of Go's stable sort: rotations, the merge of two blocks, the blocks. -/
import Derived.Sort.LotA
set_option linter.unusedVariables false
set_option linter.unusedSimpArgs false
set_option linter.unusedSectionVars false
namespace Go.Proofs.Ytmhkemgbienfiaa.Sets
open Go.Sort
/-! ### The plain law of Go's stable sort: rotations, the merge, the blocks -/
section
variable {α : Type} [Inhabited α]

theorem swp_list (X M Y : List α) (u v : α) (d : Array α) (hd : d.toList = X ++ u :: (M ++ v :: Y)) (i j : Nat) (hi : i = X.length) (hj : j = X.length + 1 + M.length) :
    (swp d i j).toList = X ++ v :: (M ++ u :: Y) := by
  have hs : d.size = X.length + 1 + M.length + 1 + Y.length := by
    rw [← Array.length_toList, hd]; simp; omega
  obtain rfl : d = (X ++ u :: (M ++ v :: Y)).toArray := by rw [← hd]
  have e1 : (X ++ u :: (M ++ v :: Y)).toArray[i]! = u := by
    subst hi; simp
  have e2 : (X ++ u :: (M ++ v :: Y)).toArray[j]! = v := by
    subst hj
    simp [List.getElem?_append, Nat.add_assoc]
    rw [if_neg (by omega)]
    rw [Nat.add_comm 1]; simp
  unfold swp
  rw [e1, e2]
  subst hi hj
  simp only [List.setIfInBounds_toArray]
  show ((X ++ u :: (M ++ v :: Y)).set X.length v).set (X.length + 1 + M.length) u = _
  rw [List.set_append_right _ _ (Nat.le_refl _), Nat.sub_self, List.set_cons_zero, List.set_append_right _ _ (by omega)]
  congr 1
  have : X.length + 1 + M.length - X.length = M.length + 1 := by omega
  rw [this, List.set_cons_succ, List.set_append_right _ _ (Nat.le_refl _), Nat.sub_self, List.set_cons_zero]

/-- swapRange's loop: k rounds left, from i. -/
def swapR (a b : Nat) : Nat → Nat → Array α → Array α
  | 0, _, d => d
  | k + 1, i, d => swapR a b k (i + 1) (swp d (a + i) (b + i))

theorem swapR_list (a b : Nat) : ∀ (k i : Nat) (X U M V Y : List α) (d : Array α), d.toList = X ++ (U ++ (M ++ (V ++ Y))) → U.length = k → V.length = k → a + i = X.length → b + i = X.length + k + M.length →
    (swapR a b k i d).toList = X ++ (V ++ (M ++ (U ++ Y)))
  | 0, i, X, U, M, V, Y, d, hd, hU, hV, _, _ => by
    obtain rfl := List.eq_nil_of_length_eq_zero hU
    obtain rfl := List.eq_nil_of_length_eq_zero hV
    simpa [swapR] using hd
  | k + 1, i, X, U, M, V, Y, d, hd, hU, hV, ha, hb => by
    cases U with
    | nil => simp at hU
    | cons u U =>
    cases V with
    | nil => simp at hV
    | cons v V =>
    simp only [List.length_cons, Nat.add_right_cancel_iff] at hU hV
    have h1 : (swp d (a + i) (b + i)).toList = X ++ v :: ((U ++ M) ++ u :: (V ++ Y)) :=
      swp_list X (U ++ M) (V ++ Y) u v d (by rw [hd]; simp) _ _ ha (by rw [hb]; simp [hU]; omega)
    have h2 := swapR_list a b k (i + 1) (X ++ [v]) U (M ++ [u]) V Y (swp d (a + i) (b + i)) (by rw [h1]; simp) hU hV (by simp; omega) (by simp; omega)
    show (swapR a b k (i + 1) (swp d (a + i) (b + i))).toList = _
    rw [h2]; simp

/-- rotate's loop. -/
def rot (m : Nat) : Nat → Nat → Nat → Array α → Array α
  | 0, _, _, d => d
  | f + 1, i, j, d =>
    if i = j then swapR (m - i) m i 0 d
    else if i > j then rot m f (i - j) j (swapR (m - i) m j 0 d)
    else rot m f i (j - i) (swapR (m - i) (m + j - i) i 0 d)

theorem rot_list (m : Nat) : ∀ (f i j : Nat) (X U V Y : List α) (d : Array α), d.toList = X ++ (U ++ (V ++ Y)) → U.length = i → V.length = j → m = X.length + i → 0 < i → 0 < j → i + j ≤ f →
    (rot m f i j d).toList = X ++ (V ++ (U ++ Y))
  | 0, i, j, X, U, V, Y, d, _, _, _, _, _, _, hf => by omega
  | f + 1, i, j, X, U, V, Y, d, hd, hU, hV, hm, hi, hj, hf => by
    rw [rot]
    by_cases e : i = j
    · subst e
      rw [if_pos rfl]
      exact swapR_list (m - i) m i 0 X U [] V Y d (by simpa using hd) hU hV (by omega) (by simp; omega)
    · rw [if_neg e]
      by_cases g : i > j
      · rw [if_pos g]
        obtain ⟨U1, U2, rfl, h1⟩ : ∃ U1 U2, U = U1 ++ U2 ∧ U1.length = j := ⟨U.take j, U.drop j, (List.take_append_drop _ _).symm, by simp; omega⟩
        simp only [List.length_append] at hU
        have hs := swapR_list (m - i) m j 0 X U1 U2 V Y d (by rw [hd]; simp) h1 hV (by omega) (by omega)
        have := rot_list m f (i - j) j (X ++ V) U2 U1 Y (swapR (m - i) m j 0 d) (by rw [hs]; simp) (by omega) h1 (by simp; omega) (by omega) hj (by omega)
        rw [this]; simp
      · rw [if_neg g]
        obtain ⟨V1, V2, rfl, h2⟩ : ∃ V1 V2, V = V1 ++ V2 ∧ V2.length = i := ⟨V.take (j - i), V.drop (j - i), (List.take_append_drop _ _).symm, by simp; omega⟩
        simp only [List.length_append] at hV
        have hs := swapR_list (m - i) (m + j - i) i 0 X U V1 V2 Y d (by rw [hd]; simp) hU h2 (by omega) (by omega)
        have := rot_list m f i (j - i) X V2 V1 (U ++ Y) (swapR (m - i) (m + j - i) i 0 d) (by rw [hs]) h2 (by omega) (by omega) hi (by omega) (by omega)
        rw [this]; simp

variable (lt : α → α → Bool)

/-- The search of the left part of one: where data[a] comes in. -/
def bsL (a : Nat) (d : Array α) : Nat → Nat → Nat → Nat
  | 0, i, _ => i
  | f + 1, i, j => if i < j then (if lt d[(i + j) / 2]! d[a]! then bsL a d f ((i + j) / 2 + 1) j else bsL a d f i ((i + j) / 2)) else i
/-- The search of the right part of one: where data[m] comes in. -/
def bsR (m : Nat) (d : Array α) : Nat → Nat → Nat → Nat
  | 0, i, _ => i
  | f + 1, i, j => if i < j then (if lt d[m]! d[(i + j) / 2]! then bsR m d f i ((i + j) / 2) else bsR m d f ((i + j) / 2 + 1) j) else i
/-- The search of where the two parts change over. -/
def bsM (p : Nat) (d : Array α) : Nat → Nat → Nat → Nat
  | 0, s, _ => s
  | f + 1, s, r => if s < r then (if lt d[p - (s + r) / 2]! d[(s + r) / 2]! then bsM p d f s ((s + r) / 2) else bsM p d f ((s + r) / 2 + 1) r) else s
/-- k rounds of swaps upward from i. -/
def up : Nat → Nat → Array α → Array α
  | 0, _, d => d
  | k + 1, i, d => up k (i + 1) (swp d i (i + 1))
/-- k rounds of swaps downward from i. -/
def down : Nat → Nat → Array α → Array α
  | 0, _, d => d
  | k + 1, i, d => down k (i - 1) (swp d i (i - 1))

theorem bsL_spec (a : Nat) (d : Array α) (lo hi : Nat) : ∀ (f i j : Nat), j - i < f → lo ≤ i → i ≤ j → j ≤ hi → (i = lo ∨ lt d[i - 1]! d[a]! = true) → (j = hi ∨ lt d[j]! d[a]! = false) →
    lo ≤ bsL lt a d f i j ∧ bsL lt a d f i j ≤ hi ∧ (bsL lt a d f i j = lo ∨ lt d[bsL lt a d f i j - 1]! d[a]! = true) ∧ (bsL lt a d f i j = hi ∨ lt d[bsL lt a d f i j]! d[a]! = false)
  | 0, i, j, h, _, _, _, _, _ => by omega
  | f + 1, i, j, h, h1, h2, h3, h4, h5 => by
    rw [bsL]
    by_cases e : i < j
    · rw [if_pos e]
      cases g : lt d[(i + j) / 2]! d[a]! with
      | true =>
        rw [if_pos rfl]
        exact bsL_spec a d lo hi f _ _ (by omega) (by omega) (by omega) h3 (.inr (by rw [Nat.add_sub_cancel]; exact g)) h5
      | false =>
        rw [if_neg (by decide)]
        exact bsL_spec a d lo hi f _ _ (by omega) h1 (by omega) (by omega) h4 (.inr g)
    · rw [if_neg e]
      obtain rfl : i = j := by omega
      exact ⟨h1, h3, h4, h5⟩
theorem bsR_spec (m : Nat) (d : Array α) (lo hi : Nat) : ∀ (f i j : Nat), j - i < f → lo ≤ i → i ≤ j → j ≤ hi → (i = lo ∨ lt d[m]! d[i - 1]! = false) → (j = hi ∨ lt d[m]! d[j]! = true) →
    lo ≤ bsR lt m d f i j ∧ bsR lt m d f i j ≤ hi ∧ (bsR lt m d f i j = lo ∨ lt d[m]! d[bsR lt m d f i j - 1]! = false) ∧ (bsR lt m d f i j = hi ∨ lt d[m]! d[bsR lt m d f i j]! = true)
  | 0, i, j, h, _, _, _, _, _ => by omega
  | f + 1, i, j, h, h1, h2, h3, h4, h5 => by
    rw [bsR]
    by_cases e : i < j
    · rw [if_pos e]
      cases g : lt d[m]! d[(i + j) / 2]! with
      | false =>
        rw [if_neg (by decide)]
        exact bsR_spec m d lo hi f _ _ (by omega) (by omega) (by omega) h3 (.inr (by rw [Nat.add_sub_cancel]; exact g)) h5
      | true =>
        rw [if_pos rfl]
        exact bsR_spec m d lo hi f _ _ (by omega) h1 (by omega) (by omega) h4 (.inr g)
    · rw [if_neg e]
      obtain rfl : i = j := by omega
      exact ⟨h1, h3, h4, h5⟩
theorem bsM_spec (p : Nat) (d : Array α) (lo hi : Nat) : ∀ (f i j : Nat), j - i < f → lo ≤ i → i ≤ j → j ≤ hi → (i = lo ∨ lt d[p - (i - 1)]! d[i - 1]! = false) → (j = hi ∨ lt d[p - j]! d[j]! = true) →
    lo ≤ bsM lt p d f i j ∧ bsM lt p d f i j ≤ hi ∧ (bsM lt p d f i j = lo ∨ lt d[p - (bsM lt p d f i j - 1)]! d[bsM lt p d f i j - 1]! = false) ∧ (bsM lt p d f i j = hi ∨ lt d[p - bsM lt p d f i j]! d[bsM lt p d f i j]! = true)
  | 0, i, j, h, _, _, _, _, _ => by omega
  | f + 1, i, j, h, h1, h2, h3, h4, h5 => by
    rw [bsM]
    by_cases e : i < j
    · rw [if_pos e]
      cases g : lt d[p - (i + j) / 2]! d[(i + j) / 2]! with
      | false =>
        rw [if_neg (by decide)]
        exact bsM_spec p d lo hi f _ _ (by omega) (by omega) (by omega) h3 (.inr (by rw [Nat.add_sub_cancel]; exact g)) h5
      | true =>
        rw [if_pos rfl]
        exact bsM_spec p d lo hi f _ _ (by omega) h1 (by omega) (by omega) h4 (.inr g)
    · rw [if_neg e]
      obtain rfl : i = j := by omega
      exact ⟨h1, h3, h4, h5⟩

theorem up_list : ∀ (k i : Nat) (X R Y : List α) (x : α) (d : Array α), d.toList = X ++ x :: (R ++ Y) → R.length = k → i = X.length → (up k i d).toList = X ++ (R ++ x :: Y)
  | 0, i, X, R, Y, x, d, hd, hR, hi => by
    obtain rfl := List.eq_nil_of_length_eq_zero hR
    simpa [up] using hd
  | k + 1, i, X, R, Y, x, d, hd, hR, hi => by
    cases R with
    | nil => simp at hR
    | cons r R =>
    simp only [List.length_cons, Nat.add_right_cancel_iff] at hR
    have h1 := swp_list X [] (R ++ Y) x r d (by rw [hd]; simp) i (i + 1) hi (by simp; omega)
    have := up_list k (i + 1) (X ++ [r]) R Y x (swp d i (i + 1)) (by rw [h1]; simp) hR (by simp; omega)
    rw [up, this]; simp

theorem swp_comm_ (d : Array α) (i j : Nat) (hi : i < d.size) (hj : j < d.size) : swp d i j = swp d j i := by
  apply Array.ext
  · simp [swp]
  · intro k h1 h2
    have g1 := swp_get d hi hj k
    have g2 := swp_get d hj hi k
    rw [getElem!_pos (swp d i j) k h1] at g1
    rw [getElem!_pos (swp d j i) k h2] at g2
    rw [g1, g2]
    by_cases e1 : k = j <;> by_cases e2 : k = i <;> simp_all

theorem down_list : ∀ (k i : Nat) (X R Y : List α) (x : α) (d : Array α), d.toList = X ++ (R ++ x :: Y) → R.length = k → i = X.length + k → (down k i d).toList = X ++ x :: (R ++ Y)
  | 0, i, X, R, Y, x, d, hd, hR, hi => by
    obtain rfl := List.eq_nil_of_length_eq_zero hR
    simpa [down] using hd
  | k + 1, i, X, R, Y, x, d, hd, hR, hi => by
    obtain ⟨R', r, rfl⟩ : ∃ R' r, R = R' ++ [r] := ⟨R.dropLast, R.getLast (by intro h; simp [h] at hR), (List.dropLast_concat_getLast _).symm⟩
    simp only [List.length_append, List.length_cons, List.length_nil, Nat.zero_add, Nat.add_right_cancel_iff] at hR
    have hsz : d.size = X.length + (k + 1) + 1 + Y.length := by rw [← Array.length_toList, hd]; simp [hR]; omega
    have h1 := swp_list (X ++ R') [] Y r x d (by rw [hd]; simp) (i - 1) i (by simp; omega) (by simp; omega)
    rw [swp_comm_ d (i - 1) i (by omega) (by omega)] at h1
    have := down_list k (i - 1) X R' (r :: Y) x (swp d i (i - 1)) (by rw [h1]; simp) hR (by omega)
    rw [down, this]; simp
end
section
variable {α : Type} [Inhabited α] (lt : α → α → Bool)

/-- symMerge, after Go's text; the first argument bounds its depth. -/
def symMerge : Nat → Array α → Nat → Nat → Nat → Array α
  | 0, d, _, _, _ => d
  | f + 1, d, a, m, b =>
    if m - a = 1 then up (bsL lt a d (b - m + 1) m b - 1 - a) a d
    else if b - m = 1 then down (m - bsR lt m d (m - a + 1) a m) m d
    else
      let mid := (a + b) / 2
      let s := if m > mid then bsM lt (mid + m - 1) d (mid - (mid + m - b) + 1) (mid + m - b) mid else bsM lt (mid + m - 1) d (m - a + 1) a m
      let e := mid + m - s
      let d1 := if s < m ∧ m < e then rot m (e - s) (m - s) (e - m) d else d
      let d2 := if a < s ∧ s < mid then symMerge f d1 a s mid else d1
      if mid < e ∧ e < b then symMerge f d2 mid e b else d2

variable {lt} {pr : α → α → Prop}

theorem get_at {d : Array α} {X Y : List α} {x : α} (h : d.toList = X ++ x :: Y) {i : Nat} (hi : i = X.length) : d[i]! = x := by
  obtain rfl : d = (X ++ x :: Y).toArray := by rw [← h]
  subst hi; simp

theorem sorted_cut {X : List α} {x : α} {Y : List α} (h : (X ++ x :: Y).Pairwise pr) : (∀ y ∈ X, pr y x) ∧ (∀ y ∈ Y, pr x y) := by
  rw [List.pairwise_append] at h
  obtain ⟨h1, h2, h3⟩ := h
  rw [List.pairwise_cons] at h2
  exact ⟨fun y hy => h3 y hy x (by simp), h2.1⟩

/-- Two rows between which everything is ordered. -/
def Ahead (pr : α → α → Prop) (A B : List α) : Prop := ∀ x ∈ A, ∀ y ∈ B, pr x y

/-- The last of A ahead of the first of B. -/
theorem ahead_of_ends (htr : ∀ x y z, pr x y → pr y z → pr x z) {A B : List α} (hA : A.Pairwise pr) (hB : B.Pairwise pr) (h : ∀ (A' : List α) (x y : α) (B' : List α), A = A' ++ [x] → B = y :: B' → pr x y) : Ahead pr A B := by
  intro x hx y hy
  have hAn : A ≠ [] := by intro e; rw [e] at hx; cases hx
  have hBn : B ≠ [] := by intro e; rw [e] at hy; cases hy
  obtain ⟨y0, B', rfl⟩ := List.exists_cons_of_ne_nil hBn
  have eA := (List.dropLast_concat_getLast hAn).symm
  have h0 := h _ _ _ _ eA rfl
  rw [eA] at hA hx
  have h1 : x = A.getLast hAn ∨ pr x (A.getLast hAn) := by
    rcases List.mem_append.1 hx with hx | hx
    · exact .inr ((sorted_cut hA).1 x hx)
    · exact .inl (by simpa using hx)
  have h2 : y = y0 ∨ pr y0 y := by
    rcases List.mem_cons.1 hy with hy | hy
    · exact .inl hy
    · exact .inr ((List.pairwise_cons.1 hB).1 y hy)
  have h3 : pr x y0 := by
    rcases h1 with rfl | h1
    · exact h0
    · exact htr _ _ _ h1 h0
  rcases h2 with rfl | h2
  · exact h3
  · exact htr _ _ _ h3 h2

theorem merge_spec (hpt : ∀ x y z, pr x y → pr y z → pr x z) : ∀ (f : Nat) (d : Array α) (X L R Y : List α) (a m b : Nat), d.toList = X ++ (L ++ (R ++ Y)) → a = X.length → m = a + L.length → b = m + R.length →
    L ≠ [] → R ≠ [] → L.length + R.length ≤ f → L.Pairwise pr → R.Pairwise pr → (∀ x ∈ L, ∀ y ∈ R, (lt y x = true → pr y x) ∧ (lt y x = false → pr x y)) →
    ∃ Z : List α, (symMerge lt f d a m b).toList = X ++ (Z ++ Y) ∧ Z.Perm (L ++ R) ∧ Z.Pairwise pr
  | 0, d, X, L, R, Y, a, m, b, _, _, _, _, hL, _, hf, _, _, _ => by
    have := List.length_pos_iff.2 hL
    omega
  | f + 1, d, X, L, R, Y, a, m, b, hd, ha, hm, hb, hL, hR, hf, sL, sR, hc => by
    have pL := List.length_pos_iff.2 hL
    have pR := List.length_pos_iff.2 hR
    rw [symMerge]
    by_cases c1 : m - a = 1
    · rw [if_pos c1]
      obtain ⟨x, rfl⟩ : ∃ x, L = [x] := List.length_eq_one_iff.1 (by omega)
      have hda : d[a]! = x := get_at (X := X) (Y := R ++ Y) (by rw [hd]; simp) ha
      obtain ⟨q1, q2, q3, q4⟩ := bsL_spec lt a d m b (b - m + 1) m b (by omega) (Nat.le_refl _) (by omega) (Nat.le_refl _) (.inl rfl) (.inl rfl)
      generalize bsL lt a d (b - m + 1) m b = i at q1 q2 q3 q4 ⊢
      rw [hda] at q3 q4
      obtain ⟨R1, R2, rfl, hl⟩ : ∃ R1 R2, R = R1 ++ R2 ∧ R1.length = i - m := ⟨R.take (i - m), R.drop (i - m), (List.take_append_drop _ _).symm, by simp; omega⟩
      simp only [List.length_append, List.length_cons, List.length_nil] at hb hm hf pR
      have hup := up_list (i - 1 - a) a X R1 (R2 ++ Y) x d (by rw [hd]; simp) (by omega) ha
      rw [List.pairwise_append] at sR
      obtain ⟨s1, s2, s3⟩ := sR
      have h1 : ∀ y ∈ R1, pr y x := by
        have := ahead_of_ends hpt s1 (List.pairwise_singleton pr x) (fun A' y x' B' eA eB => by
          simp only [List.cons.injEq] at eB
          obtain ⟨rfl, rfl⟩ := eB
          subst eA
          simp only [List.length_append, List.length_cons, List.length_nil] at hl
          have e1 : d[i - 1]! = y := get_at (X := X ++ ([x] ++ A')) (Y := R2 ++ Y) (by rw [hd]; simp) (by simp; omega)
          rcases q3 with q3 | q3
          · omega
          · rw [e1] at q3
            exact (hc x (by simp) y (by simp)).1 q3)
        exact fun y hy => this y hy x (by simp)
      have h2 : ∀ y ∈ R2, pr x y := by
        have := ahead_of_ends hpt (List.pairwise_singleton pr x) s2 (fun A' x' y B' eA eB => by
          cases A' with
          | cons q A' => simp at eA
          | nil =>
          simp only [List.nil_append, List.cons.injEq, and_true] at eA
          subst eA
          subst eB
          simp only [List.length_append, List.length_cons, List.length_nil] at hb
          have e1 : d[i]! = y := get_at (X := X ++ ([x] ++ R1)) (Y := B' ++ Y) (by rw [hd]; simp) (by simp; omega)
          rcases q4 with q4 | q4
          · omega
          · rw [e1] at q4
            exact (hc x (by simp) y (by simp)).2 q4)
        exact fun y hy => this x (by simp) y hy
      refine ⟨R1 ++ x :: R2, by rw [hup]; simp, ?_, ?_⟩
      · simp only [List.cons_append, List.nil_append]
        exact List.perm_middle
      · rw [List.pairwise_append, List.pairwise_cons]
        exact ⟨s1, ⟨h2, s2⟩, fun y hy z hz => by
          rcases List.mem_cons.1 hz with rfl | hz
          · exact h1 y hy
          · exact s3 y hy z hz⟩
    rw [if_neg c1]
    by_cases c2 : b - m = 1
    · rw [if_pos c2]
      obtain ⟨y, rfl⟩ : ∃ y, R = [y] := List.length_eq_one_iff.1 (by omega)
      have hda : d[m]! = y := get_at (X := X ++ L) (Y := Y) (by rw [hd]; simp) (by simp; omega)
      obtain ⟨q1, q2, q3, q4⟩ := bsR_spec lt m d a m (m - a + 1) a m (by omega) (Nat.le_refl _) (by omega) (Nat.le_refl _) (.inl rfl) (.inl rfl)
      generalize bsR lt m d (m - a + 1) a m = i at q1 q2 q3 q4 ⊢
      rw [hda] at q3 q4
      obtain ⟨L1, L2, rfl, hl⟩ : ∃ L1 L2, L = L1 ++ L2 ∧ L1.length = i - a := ⟨L.take (i - a), L.drop (i - a), (List.take_append_drop _ _).symm, by simp; omega⟩
      simp only [List.length_append, List.length_cons, List.length_nil] at hb hm hf pL
      have hdn := down_list (m - i) m (X ++ L1) L2 Y y d (by rw [hd]; simp) (by omega) (by simp; omega)
      rw [List.pairwise_append] at sL
      obtain ⟨s1, s2, s3⟩ := sL
      have h1 : ∀ x ∈ L1, pr x y := by
        have := ahead_of_ends hpt s1 (List.pairwise_singleton pr y) (fun A' x y' B' eA eB => by
          simp only [List.cons.injEq] at eB
          obtain ⟨rfl, rfl⟩ := eB
          subst eA
          simp only [List.length_append, List.length_cons, List.length_nil] at hl
          have e1 : d[i - 1]! = x := get_at (X := X ++ A') (Y := L2 ++ ([y] ++ Y)) (by rw [hd]; simp) (by simp; omega)
          rcases q3 with q3 | q3
          · omega
          · rw [e1] at q3
            exact (hc x (by simp) y (by simp)).2 q3)
        exact fun x hx => this x hx y (by simp)
      have h2 : ∀ x ∈ L2, pr y x := by
        have := ahead_of_ends hpt (List.pairwise_singleton pr y) s2 (fun A' y' x B' eA eB => by
          cases A' with
          | cons q A' => simp at eA
          | nil =>
          simp only [List.nil_append, List.cons.injEq, and_true] at eA
          subst eA
          subst eB
          simp only [List.length_append, List.length_cons, List.length_nil] at hm
          have e1 : d[i]! = x := get_at (X := X ++ L1) (Y := B' ++ ([y] ++ Y)) (by rw [hd]; simp) (by simp; omega)
          rcases q4 with q4 | q4
          · omega
          · rw [e1] at q4
            exact (hc x (by simp) y (by simp)).1 q4)
        exact fun x hx => this y (by simp) x hx
      refine ⟨L1 ++ y :: L2, by rw [hdn]; simp, ?_, ?_⟩
      · simp only [List.append_assoc]
        exact List.Perm.append_left _ (List.perm_append_comm (l₁ := [y]) (l₂ := L2))
      · rw [List.pairwise_append, List.pairwise_cons]
        exact ⟨s1, ⟨h2, s2⟩, fun x hx z hz => by
          rcases List.mem_cons.1 hz with rfl | hz
          · exact h1 x hx
          · exact s3 x hx z hz⟩
    rw [if_neg c2]
    have hmid : (a + b) / 2 = (a + b) / 2 := rfl
    generalize hmd : (a + b) / 2 = mid
    clear hmid
    -- where the parts change over
    have key : ∃ s, (if m > mid then bsM lt (mid + m - 1) d (mid - (mid + m - b) + 1) (mid + m - b) mid else bsM lt (mid + m - 1) d (m - a + 1) a m) = s ∧ a ≤ s ∧ s ≤ m ∧ s ≤ mid ∧ m ≤ mid + m - s ∧ mid + m - s ≤ b ∧
        (s = a ∨ mid + m - s = b ∨ lt d[mid + m - s]! d[s - 1]! = false) ∧ (s = m ∨ s = mid ∨ lt d[mid + m - s - 1]! d[s]! = true) := by
      by_cases g : m > mid
      · obtain ⟨q1, q2, q3, q4⟩ := bsM_spec lt (mid + m - 1) d (mid + m - b) mid (mid - (mid + m - b) + 1) (mid + m - b) mid (by omega) (Nat.le_refl _) (by omega) (Nat.le_refl _) (.inl rfl) (.inl rfl)
        rw [if_pos g]
        generalize bsM lt (mid + m - 1) d (mid - (mid + m - b) + 1) (mid + m - b) mid = s at q1 q2 q3 q4
        refine ⟨s, rfl, by omega, by omega, by omega, by omega, by omega, ?_, ?_⟩
        · rcases q3 with q3 | q3
          · exact .inr (.inl (by omega))
          · by_cases es : s = a
            · exact .inl es
            · rw [show mid + m - 1 - (s - 1) = mid + m - s by omega] at q3
              exact .inr (.inr q3)
        · rcases q4 with q4 | q4
          · exact .inr (.inl q4)
          · rw [show mid + m - 1 - s = mid + m - s - 1 by omega] at q4
            exact .inr (.inr q4)
      · obtain ⟨q1, q2, q3, q4⟩ := bsM_spec lt (mid + m - 1) d a m (m - a + 1) a m (by omega) (Nat.le_refl _) (by omega) (Nat.le_refl _) (.inl rfl) (.inl rfl)
        rw [if_neg g]
        generalize bsM lt (mid + m - 1) d (m - a + 1) a m = s at q1 q2 q3 q4
        refine ⟨s, rfl, by omega, by omega, by omega, by omega, by omega, ?_, ?_⟩
        · rcases q3 with q3 | q3
          · exact .inl q3
          · by_cases es : s = a
            · exact .inl es
            · rw [show mid + m - 1 - (s - 1) = mid + m - s by omega] at q3
              exact .inr (.inr q3)
        · rcases q4 with q4 | q4
          · exact .inl q4
          · rw [show mid + m - 1 - s = mid + m - s - 1 by omega] at q4
            exact .inr (.inr q4)
    obtain ⟨s, hs, k1, k2, k3, k4, k5, k6, k7⟩ := key
    simp only [hs]
    clear hs
    obtain ⟨L1, L2, rfl, hl⟩ : ∃ L1 L2, L = L1 ++ L2 ∧ L1.length = s - a := ⟨L.take (s - a), L.drop (s - a), (List.take_append_drop _ _).symm, by simp; omega⟩
    obtain ⟨R1, R2, rfl, hr⟩ : ∃ R1 R2, R = R1 ++ R2 ∧ R1.length = mid - s := ⟨R.take (mid - s), R.drop (mid - s), (List.take_append_drop _ _).symm, by simp; omega⟩
    simp only [List.length_append] at hm hb hf pL pR
    rw [List.pairwise_append] at sL sR
    obtain ⟨l1, l2, l12⟩ := sL
    obtain ⟨r1, r2, r12⟩ := sR
    have a1 : Ahead pr L1 R2 := ahead_of_ends hpt l1 r2 (fun A' x y B' eA eB => by
      subst eA; subst eB
      simp only [List.length_append, List.length_cons, List.length_nil] at hl hb hm
      have e1 : d[s - 1]! = x := get_at (X := X ++ A') (Y := L2 ++ (R1 ++ (y :: B')) ++ Y) (by rw [hd]; simp) (by simp; omega)
      have e2 : d[mid + m - s]! = y := get_at (X := X ++ ((A' ++ [x]) ++ L2 ++ R1)) (Y := B' ++ Y) (by rw [hd]; simp) (by simp; omega)
      rcases k6 with k6 | k6 | k6
      · omega
      · omega
      · rw [e1, e2] at k6
        exact (hc x (by simp) y (by simp)).2 k6)
    have a2 : Ahead pr R1 L2 := ahead_of_ends hpt r1 l2 (fun A' y x B' eA eB => by
      subst eA; subst eB
      simp only [List.length_append, List.length_cons, List.length_nil] at hr hm hb
      have e1 : d[mid + m - s - 1]! = y := get_at (X := X ++ (L1 ++ (x :: B') ++ A')) (Y := R2 ++ Y) (by rw [hd]; simp) (by simp; omega)
      have e2 : d[s]! = x := get_at (X := X ++ L1) (Y := B' ++ ((A' ++ [y]) ++ R2) ++ Y) (by rw [hd]; simp) (by simp; omega)
      rcases k7 with k7 | k7 | k7
      · omega
      · omega
      · rw [e1, e2] at k7
        exact (hc x (by simp) y (by simp)).1 k7)
    -- the rotation
    have h1 : (if s < m ∧ m < mid + m - s then rot m (mid + m - s - s) (m - s) (mid + m - s - m) d else d).toList = X ++ (L1 ++ (R1 ++ (L2 ++ (R2 ++ Y)))) := by
      by_cases g : s < m ∧ m < mid + m - s
      · rw [if_pos g]
        have := rot_list m (mid + m - s - s) (m - s) (mid + m - s - m) (X ++ L1) L2 R1 (R2 ++ Y) d (by rw [hd]; simp) (by omega) (by omega) (by simp; omega) (by omega) (by omega) (by omega)
        rw [this]; simp
      · rw [if_neg g, hd]
        by_cases e : s = m
        · obtain rfl : L2 = [] := List.eq_nil_of_length_eq_zero (by omega)
          simp
        · obtain rfl : R1 = [] := List.eq_nil_of_length_eq_zero (by omega)
          simp
    generalize (if s < m ∧ m < mid + m - s then rot m (mid + m - s - s) (m - s) (mid + m - s - m) d else d) = d1 at h1 ⊢
    -- the left half
    have h2 : ∃ Z1, (if a < s ∧ s < mid then symMerge lt f d1 a s mid else d1).toList = X ++ (Z1 ++ (L2 ++ (R2 ++ Y))) ∧ Z1.Perm (L1 ++ R1) ∧ Z1.Pairwise pr := by
      by_cases g : a < s ∧ s < mid
      · rw [if_pos g]
        exact merge_spec hpt f d1 X L1 R1 (L2 ++ (R2 ++ Y)) a s mid h1 ha (by omega) (by omega) (by intro e; subst e; simp at hl; omega) (by intro e; subst e; simp at hr; omega) (by omega) l1 r1
          (fun x hx y hy => hc x (by simp [hx]) y (by simp [hy]))
      · rw [if_neg g, h1]
        refine ⟨L1 ++ R1, by simp, List.Perm.refl _, ?_⟩
        by_cases e : s = a
        · obtain rfl : L1 = [] := List.eq_nil_of_length_eq_zero (by omega)
          simpa using r1
        · obtain rfl : R1 = [] := List.eq_nil_of_length_eq_zero (by omega)
          simpa using l1
    obtain ⟨Z1, z1, z2, z3⟩ := h2
    generalize (if a < s ∧ s < mid then symMerge lt f d1 a s mid else d1) = d2 at z1 ⊢
    -- the right half
    have hz : Z1.length = mid - a := by rw [z2.length_eq]; simp; omega
    have h3 : ∃ Z2, (if mid < mid + m - s ∧ mid + m - s < b then symMerge lt f d2 mid (mid + m - s) b else d2).toList = X ++ (Z1 ++ (Z2 ++ Y)) ∧ Z2.Perm (L2 ++ R2) ∧ Z2.Pairwise pr := by
      by_cases g : mid < mid + m - s ∧ mid + m - s < b
      · rw [if_pos g]
        obtain ⟨Z2, y1, y2, y3⟩ := merge_spec hpt f d2 (X ++ Z1) L2 R2 Y mid (mid + m - s) b (by rw [z1]; simp) (by simp; omega) (by omega) (by omega) (by intro e; subst e; simp at hm; omega) (by intro e; subst e; simp at hb; omega) (by omega) l2 r2
          (fun x hx y hy => hc x (by simp [hx]) y (by simp [hy]))
        exact ⟨Z2, by rw [y1]; simp, y2, y3⟩
      · rw [if_neg g, z1]
        refine ⟨L2 ++ R2, by simp, List.Perm.refl _, ?_⟩
        by_cases e : s = m
        · obtain rfl : L2 = [] := List.eq_nil_of_length_eq_zero (by omega)
          simpa using r2
        · obtain rfl : R2 = [] := List.eq_nil_of_length_eq_zero (by omega)
          simpa using l2
    obtain ⟨Z2, y1, y2, y3⟩ := h3
    refine ⟨Z1 ++ Z2, by rw [y1]; simp, ?_, ?_⟩
    · refine (List.Perm.append z2 y2).trans ?_
      simp only [List.append_assoc]
      refine List.Perm.append_left _ ?_
      rw [← List.append_assoc, ← List.append_assoc]
      exact List.Perm.append_right _ List.perm_append_comm
    · rw [List.pairwise_append]
      refine ⟨z3, y3, fun x hx y hy => ?_⟩
      rw [z2.mem_iff] at hx
      rw [y2.mem_iff] at hy
      rcases List.mem_append.1 hx with hx | hx <;> rcases List.mem_append.1 hy with hy | hy
      · exact l12 x hx y hy
      · exact a1 x hx y hy
      · exact a2 x hx y hy
      · exact r12 x hx y hy
end
section
variable {α : Type} [Inhabited α] (lt : α → α → Bool)

/-- The insertion sorts of the blocks of 20, from a on. -/
def stIns : Nat → Nat → Array α → Array α
  | 0, _, d => d
  | f + 1, a, d => if a + 20 ≤ d.size then stIns f (a + 20) (insertionSort lt d a (a + 20)) else insertionSort lt d a d.size
/-- The merges of two blocks each, from a on. -/
def stMrg (bs : Nat) : Nat → Nat → Array α → Array α
  | 0, _, d => d
  | f + 1, a, d => if a + 2 * bs ≤ d.size then stMrg bs f (a + 2 * bs) (symMerge lt (2 * bs) d a (a + bs) (a + 2 * bs)) else if a + bs < d.size then symMerge lt (2 * bs) d a (a + bs) d.size else d
def stLoop : Nat → Nat → Array α → Array α
  | 0, _, d => d
  | f + 1, bs, d => if bs < d.size then stLoop f (2 * bs) (stMrg lt bs (d.size + 1) 0 d) else d
def stable (d : Array α) : Array α := stLoop lt d.size 20 (stIns lt (d.size + 1) 0 d)

variable {lt} {pr : α → α → Prop} {idx : α → Nat}

theorem insInner_list (a : Nat) : ∀ (j : Nat) (d : Array α) (X L : List α) (y : α) (T : List α), d.toList = X ++ (L ++ y :: T) → a = X.length → j = a + L.length →
    ∃ L1 L2, L = L1 ++ L2 ∧ (insInner lt a j d).toList = X ++ (L1 ++ y :: (L2 ++ T)) ∧ (∀ z ∈ L2, lt y z = true) ∧ (∀ A z, L1 = A ++ [z] → lt y z = false)
  | 0, d, X, L, y, T, hd, ha, hj => by
    obtain rfl := List.eq_nil_of_length_eq_zero (show L.length = 0 by omega)
    exact ⟨[], [], rfl, by rw [insInner, hd]; simp, by simp, fun A z h => by simp at h⟩
  | j + 1, d, X, L, y, T, hd, ha, hj => by
    rw [insInner]
    by_cases e : L = []
    · subst e
      simp only [List.length_nil] at hj
      rw [if_neg (by simp; omega)]
      exact ⟨[], [], rfl, by rw [hd]; simp, by simp, fun A z h => by simp at h⟩
    · obtain ⟨L', z, rfl⟩ : ∃ L' z, L = L' ++ [z] := ⟨_, _, (List.dropLast_concat_getLast e).symm⟩
      simp only [List.length_append, List.length_cons, List.length_nil] at hj
      have hsz : d.size = X.length + (L'.length + 1 + (1 + T.length)) := by rw [← Array.length_toList, hd]; simp; omega
      have e1 : d[j + 1]! = y := get_at (X := X ++ (L' ++ [z])) (Y := T) (by rw [hd]; simp) (by simp; omega)
      have e2 : d[j]! = z := get_at (X := X ++ L') (Y := y :: T) (by rw [hd]; simp) (by simp; omega)
      rw [e1, e2]
      cases g : lt y z with
      | true =>
        rw [if_pos (by simp; omega)]
        have hs := swp_list (X ++ L') [] T z y d (by rw [hd]; simp) j (j + 1) (by simp; omega) (by simp; omega)
        rw [swp_comm_ d j (j + 1) (by omega) (by omega)] at hs
        obtain ⟨L1, L2, rfl, h1, h2, h3⟩ := insInner_list a j (swp d (j + 1) j) X L' y (z :: T) (by rw [hs]; simp) ha (by omega)
        refine ⟨L1, L2 ++ [z], by simp, by rw [h1]; simp, fun w hw => ?_, h3⟩
        rcases List.mem_append.1 hw with hw | hw
        · exact h2 w hw
        · rw [List.mem_singleton.1 hw]; exact g
      | false =>
        rw [if_neg (by simp)]
        refine ⟨L' ++ [z], [], by simp, by rw [hd]; simp, by simp, fun A w h => ?_⟩
        obtain ⟨_, h⟩ := List.append_inj' h rfl
        rw [← (List.cons.inj h).1]; exact g

/-- What a test tells of two, the first the elder. -/
def Tells (lt : α → α → Bool) (pr : α → α → Prop) (x y : α) : Prop := (lt y x = true → pr y x) ∧ (lt y x = false → pr x y)

theorem insOuter_list (hpt : ∀ x y z, pr x y → pr y z → pr x z) (a b : Nat) : ∀ (R L X Y : List α) (i : Nat) (d : Array α), d.toList = X ++ (L ++ (R ++ Y)) → a = X.length → i = a + L.length → b = i + R.length →
    L.Pairwise pr → (∀ x ∈ L, ∀ y ∈ R, Tells lt pr x y) → R.Pairwise (Tells lt pr) →
    ∃ Z, (insOuter lt a b i d).toList = X ++ (Z ++ Y) ∧ Z.Perm (L ++ R) ∧ Z.Pairwise pr
  | [], L, X, Y, i, d, hd, ha, hi, hb, sL, _, _ => by
    rw [insOuter, if_neg (by simp at hb; omega)]
    exact ⟨L, by simpa using hd, by simp, sL⟩
  | y :: R, L, X, Y, i, d, hd, ha, hi, hb, sL, hc, hR => by
    simp only [List.length_cons] at hb
    rw [insOuter, if_pos (by omega)]
    obtain ⟨L1, L2, rfl, h1, h2, h3⟩ := insInner_list (lt := lt) a i d X L y (R ++ Y) (by rw [hd]; simp) ha hi
    rw [List.pairwise_cons] at hR
    rw [List.pairwise_append] at sL
    obtain ⟨s1, s2, s12⟩ := sL
    have a1 : ∀ x ∈ L1, pr x y := fun x hx => by
      have := ahead_of_ends hpt s1 (List.pairwise_singleton pr y) (fun A' x y' B' eA eB => by
        simp only [List.cons.injEq] at eB
        obtain ⟨rfl, rfl⟩ := eB
        exact (hc x (by rw [eA]; simp) y (by simp)).2 (h3 _ _ eA))
      exact this x hx y (by simp)
    have a2 : ∀ x ∈ L2, pr y x := fun x hx => (hc x (by simp [hx]) y (by simp)).1 (h2 x hx)
    obtain ⟨Z, z1, z2, z3⟩ := insOuter_list hpt a b R (L1 ++ y :: L2) X Y (i + 1) (insInner lt a i d) (by rw [h1]; simp) ha (by simp at hi ⊢; omega) (by omega)
      (by
        rw [List.pairwise_append, List.pairwise_cons]
        exact ⟨s1, ⟨a2, s2⟩, fun x hx z hz => by
          rcases List.mem_cons.1 hz with rfl | hz
          · exact a1 x hx
          · exact s12 x hx z hz⟩)
      (fun x hx z hz => by
        rcases List.mem_append.1 hx with hx | hx
        · exact hc x (by simp [hx]) z (by simp [hz])
        · rcases List.mem_cons.1 hx with rfl | hx
          · exact hR.1 z hz
          · exact hc x (by simp [hx]) z (by simp [hz]))
      hR.2
    refine ⟨Z, z1, z2.trans ?_, z3⟩
    simp only [List.append_assoc, List.cons_append]
    refine List.Perm.append_left _ ?_
    exact (List.perm_middle (l₁ := L2) (l₂ := R) (a := y)).symm

theorem insertionSort_list (hpt : ∀ x y z, pr x y → pr y z → pr x z) (X R Y : List α) (a b : Nat) (d : Array α) (hd : d.toList = X ++ (R ++ Y)) (ha : a = X.length) (hb : b = a + R.length) (hR : R.Pairwise (Tells lt pr)) :
    ∃ Z, (insertionSort lt d a b).toList = X ++ (Z ++ Y) ∧ Z.Perm R ∧ Z.Pairwise pr := by
  unfold insertionSort
  cases R with
  | nil =>
    rw [insOuter, if_neg (by simp at hb; omega)]
    exact ⟨[], hd, by simp, List.Pairwise.nil⟩
  | cons x R =>
    rw [List.pairwise_cons] at hR
    obtain ⟨Z, h1, h2, h3⟩ := insOuter_list (lt := lt) hpt a b R [x] X Y (a + 1) d (by rw [hd]; simp) ha (by simp) (by simp at hb; omega) (List.pairwise_singleton _ _) (fun u hu y hy => by rw [List.mem_singleton.1 hu]; exact hR.1 y hy) hR.2
    exact ⟨Z, h1, h2, h3⟩

/-- Blocks in order, each sorted; what a block has is elder than what stands behind it. -/
def Bl (pr : α → α → Prop) (idx : α → Nat) (bs : Nat) : List (List α) → Prop
  | [] => True
  | B :: t => B.Pairwise pr ∧ (t.flatten = [] ∧ B.length ≤ bs ∨ B.length = bs) ∧ (∀ x ∈ B, ∀ y ∈ t.flatten, idx x < idx y) ∧ Bl pr idx bs t

theorem size_of_list {d : Array α} {l : List α} (h : d.toList = l) : d.size = l.length := by rw [← h]; simp

theorem stIns_spec (hpt : ∀ x y z, pr x y → pr y z → pr x z) (hte : ∀ x y, idx x < idx y → Tells lt pr x y) : ∀ (f a : Nat) (d : Array α) (P Q : List α), d.toList = P ++ Q → a = P.length → Q.length < f → Q.Pairwise (fun x y => idx x < idx y) →
    ∃ bl, (stIns lt f a d).toList = P ++ bl.flatten ∧ bl.flatten.Perm Q ∧ Bl pr idx 20 bl
  | 0, a, d, P, Q, _, _, hf, _ => by omega
  | f + 1, a, d, P, Q, hd, ha, hf, hQ => by
    have hs := size_of_list hd
    simp only [List.length_append] at hs
    rw [stIns]
    by_cases g : a + 20 ≤ d.size
    · rw [if_pos g]
      obtain ⟨Q1, Q2, rfl, hl⟩ : ∃ Q1 Q2, Q = Q1 ++ Q2 ∧ Q1.length = 20 := ⟨Q.take 20, Q.drop 20, (List.take_append_drop _ _).symm, by simp; omega⟩
      rw [List.pairwise_append] at hQ
      obtain ⟨q1, q2, q12⟩ := hQ
      simp only [List.length_append] at hf
      obtain ⟨Z, z1, z2, z3⟩ := insertionSort_list (lt := lt) hpt P Q1 Q2 a (a + 20) d hd ha (by omega) (q1.imp (fun h => hte _ _ h))
      obtain ⟨bl, b1, b2, b3⟩ := stIns_spec hpt hte f (a + 20) (insertionSort lt d a (a + 20)) (P ++ Z) Q2 (by rw [z1]; simp) (by simp [z2.length_eq]; omega) (by omega) q2
      refine ⟨Z :: bl, by rw [b1]; simp, ?_, z3, .inr (by rw [z2.length_eq, hl]), fun x hx y hy => q12 x (z2.mem_iff.1 hx) y (b2.mem_iff.1 hy), b3⟩
      simp only [List.flatten_cons]
      exact List.Perm.append z2 b2
    · rw [if_neg g]
      obtain ⟨Z, z1, z2, z3⟩ := insertionSort_list (lt := lt) hpt P Q [] a d.size d (by rw [hd]; simp) ha (by omega) (hQ.imp (fun h => hte _ _ h))
      exact ⟨[Z], by rw [z1]; simp, by simpa using z2, z3, .inl ⟨rfl, by rw [z2.length_eq]; omega⟩, by simp, trivial⟩

theorem stMrg_spec (hpt : ∀ x y z, pr x y → pr y z → pr x z) (hte : ∀ x y, idx x < idx y → Tells lt pr x y) (bs : Nat) (hbs : 0 < bs) : ∀ (f a : Nat) (d : Array α) (P : List α) (bl : List (List α)), d.toList = P ++ bl.flatten → a = P.length → bl.flatten.length < f → Bl pr idx bs bl →
    ∃ bl', (stMrg lt bs f a d).toList = P ++ bl'.flatten ∧ bl'.flatten.Perm bl.flatten ∧ Bl pr idx (2 * bs) bl'
  | 0, a, d, P, bl, _, _, hf, _ => by omega
  | f + 1, a, d, P, bl, hd, ha, hf, hB => by
    have hs := size_of_list hd
    simp only [List.length_append] at hs
    rw [stMrg]
    cases bl with
    | nil =>
      simp only [List.flatten_nil, List.length_nil] at hs
      rw [if_neg (by omega), if_neg (by omega)]
      exact ⟨[], hd, List.Perm.refl _, trivial⟩
    | cons B t =>
    obtain ⟨b1, b2, b3, b4⟩ := hB
    simp only [List.flatten_cons, List.length_append] at hs hf
    by_cases et : t.flatten = []
    · have hB' : B.length ≤ bs := by rcases b2 with b2 | b2 <;> omega
      have hz : t.flatten.length = 0 := by rw [et]; rfl
      rw [if_neg (by omega), if_neg (by omega)]
      exact ⟨[B], by rw [hd]; simp [et], by simp [et], b1, .inl ⟨rfl, by omega⟩, by simp, trivial⟩
    · have hB' : B.length = bs := by
        rcases b2 with ⟨b2, _⟩ | b2
        · exact absurd b2 et
        · exact b2
      cases t with
      | nil => exact absurd rfl et
      | cons C t =>
      obtain ⟨c1, c2, c3, c4⟩ := b4
      simp only [List.flatten_cons, List.length_append, List.mem_append] at hs hf b3 et
      have hC : C ≠ [] := by
        intro e
        subst e
        rcases c2 with ⟨c2, _⟩ | c2
        · exact et (by simp [c2])
        · simp at c2; omega
      have hBn : B ≠ [] := by
        intro e
        subst e
        simp at hB'; omega
      have hCl : C.length ≤ bs := by rcases c2 with c2 | c2 <;> omega
      have tell : ∀ x ∈ B, ∀ y ∈ C, (lt y x = true → pr y x) ∧ (lt y x = false → pr x y) := fun x hx y hy => hte x y (b3 x hx y (.inl hy))
      by_cases g : a + 2 * bs ≤ d.size
      · rw [if_pos g]
        have hC2 : C.length = bs := by
          rcases c2 with ⟨c2, c3⟩ | c2
          · rw [c2] at hs; simp only [List.length_nil] at hs; omega
          · exact c2
        obtain ⟨Z, z1, z2, z3⟩ := merge_spec (lt := lt) hpt (2 * bs) d P B C t.flatten a (a + bs) (a + 2 * bs) (by rw [hd]; simp) ha (by omega) (by omega) hBn hC (by omega) b1 c1 tell
        have hZl : Z.length = 2 * bs := by rw [z2.length_eq]; simp; omega
        obtain ⟨bl', y1, y2, y3⟩ := stMrg_spec hpt hte bs hbs f (a + 2 * bs) (symMerge lt (2 * bs) d a (a + bs) (a + 2 * bs)) (P ++ Z) t (by rw [z1]; simp) (by simp; omega) (by omega) c4
        refine ⟨Z :: bl', by rw [y1]; simp, ?_, z3, .inr hZl, fun x hx y hy => ?_, y3⟩
        · simp only [List.flatten_cons]
          rw [← List.append_assoc]
          exact List.Perm.append z2 y2
        · rw [z2.mem_iff] at hx
          rw [y2.mem_iff] at hy
          rcases List.mem_append.1 hx with hx | hx
          · exact b3 x hx y (.inr hy)
          · exact c3 x hx y hy
      · rw [if_neg g]
        have hCp := List.length_pos_iff.2 hC
        rw [if_pos (by omega)]
        have ht : t.flatten = [] := by
          rcases c2 with ⟨c2, _⟩ | c2
          · exact c2
          · exfalso; omega
        rw [ht] at hs
        simp only [List.length_nil] at hs
        obtain ⟨Z, z1, z2, z3⟩ := merge_spec (lt := lt) hpt (2 * bs) d P B C [] a (a + bs) d.size (by rw [hd]; simp [ht]) ha (by omega) (by omega) hBn hC (by omega) b1 c1 tell
        exact ⟨[Z], by rw [z1]; simp, by simpa [ht] using z2, z3, .inl ⟨rfl, by rw [z2.length_eq]; simp; omega⟩, by simp, trivial⟩

theorem stLoop_spec (hpt : ∀ x y z, pr x y → pr y z → pr x z) (hte : ∀ x y, idx x < idx y → Tells lt pr x y) : ∀ (f bs : Nat) (d : Array α) (bl : List (List α)), 0 < bs → d.size ≤ bs + f → d.toList = bl.flatten → Bl pr idx bs bl →
    (stLoop lt f bs d).toList.Perm bl.flatten ∧ (stLoop lt f bs d).toList.Pairwise pr
  | f, bs, d, bl, hbs, hf, hd, hB => by
    by_cases g : bs < d.size
    · cases f with
      | zero => omega
      | succ f =>
      rw [stLoop, if_pos g]
      obtain ⟨bl', b1, b2, b3⟩ := stMrg_spec (lt := lt) hpt hte bs hbs (d.size + 1) 0 d [] bl (by simpa using hd) rfl (by rw [← hd]; simp) hB
      simp only [List.nil_append] at b1
      have hs : (stMrg lt bs (d.size + 1) 0 d).size = d.size := by rw [size_of_list b1, b2.length_eq, ← hd]; simp
      have := stLoop_spec hpt hte f (2 * bs) (stMrg lt bs (d.size + 1) 0 d) bl' (by omega) (by rw [hs]; omega) b1 b3
      exact ⟨this.1.trans b2, this.2⟩
    · have e : stLoop lt f bs d = d := by
        cases f with
        | zero => rfl
        | succ f => rw [stLoop, if_neg g]
      rw [e, hd]
      refine ⟨List.Perm.refl _, ?_⟩
      cases bl with
      | nil => exact List.Pairwise.nil
      | cons B t =>
        obtain ⟨b1, b2, _, _⟩ := hB
        have hs := size_of_list hd
        simp only [List.flatten_cons, List.length_append] at hs
        have ht : t.flatten = [] := by
          rcases b2 with ⟨b2, _⟩ | b2
          · exact b2
          · exact List.eq_nil_of_length_eq_zero (by omega)
        simpa [ht] using b1

/-- **Go's stable sort**: what stood in the order of 'idx' stands in the order 'pr'. -/
theorem stable_spec (hpt : ∀ x y z, pr x y → pr y z → pr x z) (hte : ∀ x y, idx x < idx y → Tells lt pr x y) (d : Array α) (hd : d.toList.Pairwise (fun x y => idx x < idx y)) :
    (stable lt d).toList.Perm d.toList ∧ (stable lt d).toList.Pairwise pr := by
  obtain ⟨bl, b1, b2, b3⟩ := stIns_spec (lt := lt) hpt hte (d.size + 1) 0 d [] d.toList rfl rfl (by simp) hd
  simp only [List.nil_append] at b1
  have hs : (stIns lt (d.size + 1) 0 d).size = d.size := by rw [size_of_list b1, b2.length_eq]; simp
  have := stLoop_spec (lt := lt) hpt hte d.size 20 (stIns lt (d.size + 1) 0 d) bl (by omega) (by omega) b1 b3
  exact ⟨this.1.trans b2, this.2⟩
end
end Go.Proofs.Ytmhkemgbienfiaa.Sets
