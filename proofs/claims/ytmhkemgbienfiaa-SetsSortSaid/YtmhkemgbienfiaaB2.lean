/- The plain law of the package sets: what Compare, Place, Sort and Sorted say. -/
import Derived.Test.YtmhkemgbienfiaaB1
namespace Go.Proofs.Ytmhkemgbienfiaa.Base
open Go.RowKit Go.Sort Go.Proofs Go.Proofs.YtmhkemgbienfiaaW.PrintWords Go.Proofs.YtmhkemgbienfiaaW.PrintLast
set_option linter.unusedVariables false
set_option linter.unusedSimpArgs false
set_option maxHeartbeats 1000000
theorem w64 {x : Int} (h0 : -9223372036854775808 ≤ x) (h1 : x ≤ 9223372036854775807) : wrap64 x = x := by unfold wrap64; omega
theorem w64_nat {i n : Nat} (h : i < n) (hn : n ≤ 4611686018427387904) : wrap64 ((i : Int) + 1) = ((i + 1 : Nat) : Int) := by unfold wrap64; omega
theorem rd_nat (xs : List Int) (i : Nat) (h : i < xs.length) : rd xs (i : Int) = xs[i] := by simp [rd, List.getD_eq_getElem?_getD, List.getElem?_eq_getElem h]
theorem wf64 {a : Int} (h : (Lit.int .i64 a).wf = true) : -9223372036854775808 ≤ a ∧ a ≤ 9223372036854775807 := by
  simpa [Lit.wf, show IntKind.i64.min = -9223372036854775808 from rfl] using h
theorem tdiv_nn {a : Int} (h : 0 ≤ a) (b : Int) : Int.tdiv a b = a / b := Int.tdiv_eq_ediv_of_nonneg h
theorem tmod_nn {a : Int} (h : 0 ≤ a) (b : Int) : Int.tmod a b = a % b := Int.tmod_eq_emod_of_nonneg h
theorem dec_iff (p q : Prop) [Decidable p] [Decidable q] (h : p ↔ q) : decide p = decide q := by simp [h]
theorem dec_t (p : Prop) [Decidable p] (h : p) : decide p = true := by simp [h]
theorem dec_f (p : Prop) [Decidable p] (h : ¬ p) : decide p = false := by simp [h]
theorem tmod_bd (a c : Int) (hc : 0 < c) : -c < Int.tmod a c ∧ Int.tmod a c < c := by
  have h1 := Int.emod_nonneg a (b := c) (by omega)
  have h2 := Int.emod_lt_of_pos a hc
  have h3 : ((c.natAbs : Nat) : Int) = c := by omega
  have h4 := Int.tmod_lt_of_pos a hc
  refine ⟨?_, h4⟩
  rw [Int.tmod_eq_emod]
  split
  · omega
  · rename_i h
    have : a % c ≠ 0 := fun e => h (.inr (Int.dvd_of_emod_eq_zero e))
    omega
theorem w64l (x y : Int) (h : x = y ∧ -9223372036854775808 ≤ y ∧ y ≤ 9223372036854775807) : wrap64 x = y := by rw [h.1]; exact w64 h.2.1 h.2.2

theorem Ints_l0 (a b : List Int) (hl : a.length = b.length) (hm : a.length ≤ 4611686018427387904) : ∀ (d k i : Nat), i + d = a.length → d < k → sobriquetkeep_Ints.l0 k a b (i : Int) = some (decide (a.drop i = b.drop i)) := by
  intro d
  induction d with
  | zero =>
    intro k i hi hk
    obtain ⟨k, rfl⟩ : ∃ m, k = m + 1 := ⟨k - 1, by omega⟩
    simp only [sobriquetkeep_Ints.l0]
    rw [if_neg (by omega), List.drop_eq_nil_of_le (by omega), List.drop_eq_nil_of_le (by omega)]
    simp
  | succ d ih =>
    intro k i hi hk
    obtain ⟨k, rfl⟩ : ∃ m, k = m + 1 := ⟨k - 1, by omega⟩
    have ha : i < a.length := by omega
    have hb : i < b.length := by omega
    simp only [sobriquetkeep_Ints.l0]
    rw [if_pos (by omega), if_pos (by omega), if_pos (by omega), rd_nat a i ha, rd_nat b i hb, w64_nat ha hm, ih k (i + 1) (by omega) (by omega), List.drop_eq_getElem_cons ha, List.drop_eq_getElem_cons hb]
    by_cases h : a[i] = b[i]
    · simp only [h, if_true, List.cons.injEq, true_and]
    · simp only [h, if_false, List.cons.injEq, false_and, decide_false]
theorem Ints_f (a b : List Int) (k : Nat) (hm : a.length ≤ 4611686018427387904) (hk : a.length < k) : sobriquetkeep_Ints.f k a b = some (decide (a = b)) := by
  unfold sobriquetkeep_Ints.f
  by_cases hl : a.length = b.length
  · rw [if_pos (by omega)]
    have := Ints_l0 a b hl hm a.length k 0 (by omega) hk
    simpa using this
  · rw [if_neg (by omega)]
    have : a ≠ b := fun h => hl (by rw [h])
    simp [this]

/-! ### What Compare says -/
open Go.Proofs.Ytmhkemgbienfiaa.Sets
theorem cb_anti : ∀ a b : List UInt8, Lib.compareBytes b a = - Lib.compareBytes a b
  | [], [] => rfl
  | [], _ :: _ => rfl
  | _ :: _, [] => rfl
  | x :: a, y :: b => by
    rw [Lib.compareBytes, Lib.compareBytes]
    by_cases h : x < y
    · have h' : ¬ y < x := fun q => by have := UInt8.lt_iff_toNat_lt.1 h; have := UInt8.lt_iff_toNat_lt.1 q; omega
      simp [h, h']
    · by_cases h' : y < x
      · simp [h, h']
      · simp only [h, h', if_false]; exact cb_anti a b
theorem cb_range : ∀ a b : List UInt8, Lib.compareBytes a b = -1 ∨ Lib.compareBytes a b = 0 ∨ Lib.compareBytes a b = 1
  | [], [] => .inr (.inl rfl)
  | [], _ :: _ => .inl rfl
  | _ :: _, [] => .inr (.inr rfl)
  | x :: a, y :: b => by
    rw [Lib.compareBytes]
    split
    · exact .inl rfl
    · split
      · exact .inr (.inr rfl)
      · exact cb_range a b
theorem cb_zero : ∀ a b : List UInt8, Lib.compareBytes a b = 0 → a = b
  | [], [], _ => rfl
  | [], _ :: _, h => by simp [Lib.compareBytes] at h
  | _ :: _, [], h => by simp [Lib.compareBytes] at h
  | x :: a, y :: b, h => by
    rw [Lib.compareBytes] at h
    by_cases h1 : x < y
    · simp [h1] at h
    · by_cases h2 : y < x
      · simp [h1, h2] at h
      · simp only [h1, h2, if_false] at h
        have hxy : x = y := UInt8.toNat_inj.1 (by
          rw [UInt8.lt_iff_toNat_lt] at h1 h2
          omega)
        rw [hxy, cb_zero a b h]
theorem u8lt (x y : UInt8) : x < y ↔ x.toNat < y.toNat := UInt8.lt_iff_toNat_lt
theorem cb_refl : ∀ a : List UInt8, Lib.compareBytes a a = 0
  | [] => rfl
  | x :: a => by
    rw [Lib.compareBytes]
    have h : ¬ x < x := fun q => by have := UInt8.lt_iff_toNat_lt.1 q; omega
    simp only [h, if_false]; exact cb_refl a
theorem cb_trans : ∀ a b c : List UInt8, Lib.compareBytes a b ≤ 0 → Lib.compareBytes b c ≤ 0 → Lib.compareBytes a c ≤ 0 ∧ (Lib.compareBytes a b < 0 ∨ Lib.compareBytes b c < 0 → Lib.compareBytes a c < 0)
  | [], b, [], _, _ => by
    cases b with
    | nil => simp [Lib.compareBytes] at *
    | cons y b => simp [Lib.compareBytes] at *
  | [], b, _ :: _, _, _ => by simp [Lib.compareBytes]
  | x :: a, [], c, h, _ => by simp [Lib.compareBytes] at h
  | x :: a, y :: b, [], _, h => by simp [Lib.compareBytes] at h
  | x :: a, y :: b, z :: c, h1, h2 => by
    rw [Lib.compareBytes] at h1 h2 ⊢
    rw [Lib.compareBytes, Lib.compareBytes]
    simp only [UInt8.lt_iff_toNat_lt] at h1 h2 ⊢
    have ih := cb_trans a b c
    by_cases p1 : x.toNat < y.toNat
    · by_cases p2 : y.toNat < z.toNat
      · rw [if_pos (show x.toNat < z.toNat by omega)]; simp
      · by_cases p3 : z.toNat < y.toNat
        · simp [p2, p3] at h2
        · rw [if_pos (show x.toNat < z.toNat by omega)]; simp
    · by_cases p1' : y.toNat < x.toNat
      · simp [p1, p1'] at h1
      · by_cases p2 : y.toNat < z.toNat
        · rw [if_pos (show x.toNat < z.toNat by omega)]; simp
        · by_cases p3 : z.toNat < y.toNat
          · simp [p2, p3] at h2
          · rw [if_neg p1, if_neg p1'] at h1 ⊢
            rw [if_neg p2, if_neg p3] at h2
            simp only [if_neg p2, if_neg p3]
            rw [if_neg (show ¬ x.toNat < z.toNat by omega), if_neg (show ¬ z.toNat < x.toNat by omega)]
            exact ih h1 h2
theorem cb_begin : ∀ (a b c : List UInt8), Lib.compareBytes (a ++ b) (a ++ c) = Lib.compareBytes b c
  | [], _, _ => rfl
  | x :: a, b, c => by
    rw [List.cons_append, List.cons_append, Lib.compareBytes]
    have h : ¬ x < x := fun q => by have := UInt8.lt_iff_toNat_lt.1 q; omega
    simp only [h, if_false]; exact cb_begin a b c

theorem cmpI_anti (a b : List Int) : cmpI b a = - cmpI a b := cb_anti _ _
theorem cmpI_range (a b : List Int) : cmpI a b = -1 ∨ cmpI a b = 0 ∨ cmpI a b = 1 := cb_range _ _
theorem cmpI_refl (a : List Int) : cmpI a a = 0 := cb_refl _
theorem cmpI_trans (a b c : List Int) (h1 : cmpI a b ≤ 0) (h2 : cmpI b c ≤ 0) : cmpI a c ≤ 0 ∧ (cmpI a b < 0 ∨ cmpI b c < 0 → cmpI a c < 0) := cb_trans _ _ _ h1 h2
theorem bytesOf_inj : ∀ (a b : List Int), (∀ x ∈ a, 0 ≤ x ∧ x ≤ 255) → (∀ x ∈ b, 0 ≤ x ∧ x ≤ 255) → Lib.bytesOf a = Lib.bytesOf b → a = b
  | [], [], _, _, _ => rfl
  | [], _ :: _, _, _, h => by simp [Lib.bytesOf] at h
  | _ :: _, [], _, _, h => by simp [Lib.bytesOf] at h
  | x :: a, y :: b, ha, hb, h => by
    simp only [Lib.bytesOf, List.map_cons, List.cons.injEq] at h
    have hx := ha x (by simp)
    have hy := hb y (by simp)
    have e : x = y := by
      have := congrArg UInt8.toNat h.1
      simp only [Nat.toUInt8, UInt8.toNat_ofNat'] at this
      omega
    rw [e, bytesOf_inj a b (fun z hz => ha z (by simp [hz])) (fun z hz => hb z (by simp [hz])) h.2]
theorem cmpI_zero (a b : List Int) (ha : ∀ x ∈ a, 0 ≤ x ∧ x ≤ 255) (hb : ∀ x ∈ b, 0 ≤ x ∧ x ≤ 255) : cmpI a b = 0 ↔ a = b :=
  ⟨fun h => bytesOf_inj a b ha hb (cb_zero _ _ h), fun h => by rw [h]; exact cmpI_refl _⟩
theorem bytesOf_append (a b : List Int) : Lib.bytesOf (a ++ b) = Lib.bytesOf a ++ Lib.bytesOf b := by simp [Lib.bytesOf]
theorem cmpI_begin (a b c : List Int) : cmpI (a ++ b) (a ++ c) = cmpI b c := by
  unfold cmpI; rw [bytesOf_append, bytesOf_append]; exact cb_begin _ _ _
theorem cmpI_nil_cons (x : Int) (b : List Int) : cmpI [] (x :: b) = -1 := rfl
theorem cmpI_nil : cmpI [] [] = 0 := rfl
theorem cmpI_cons (x y : Int) (a b : List Int) (hx : 0 ≤ x ∧ x ≤ 255) (hy : 0 ≤ y ∧ y ≤ 255) : cmpI (x :: a) (y :: b) = if x < y then -1 else if y < x then 1 else cmpI a b := by
  unfold cmpI
  have e : ∀ (z : Int) (l : List Int), Lib.bytesOf (z :: l) = z.toNat.toUInt8 :: Lib.bytesOf l := fun _ _ => rfl
  rw [e, e, Lib.compareBytes]
  simp only [UInt8.lt_iff_toNat_lt, Nat.toUInt8, UInt8.toNat_ofNat']
  by_cases h : x < y
  · rw [if_pos h, if_pos (by omega)]
  · rw [if_neg h, if_neg (by omega)]
    by_cases h' : y < x
    · rw [if_pos h', if_pos (by omega)]
    · rw [if_neg h', if_neg (by omega)]

/-! ### What Place says -/
/-- i ahead of k: by Compare, of equal ones by the place. -/
def Pre (l : List (List Int)) (i k : Nat) : Prop := cmpI (l.getD i []) (l.getD k []) < 0 ∨ (cmpI (l.getD i []) (l.getD k []) = 0 ∧ i < k)
theorem pre_trans (l : List (List Int)) (x y z : Nat) (h1 : Pre l x y) (h2 : Pre l y z) : Pre l x z := by
  unfold Pre at *
  have a1 : cmpI (l.getD x []) (l.getD y []) ≤ 0 := by omega
  have a2 : cmpI (l.getD y []) (l.getD z []) ≤ 0 := by omega
  obtain ⟨t1, t2⟩ := cmpI_trans _ _ _ a1 a2
  by_cases h : cmpI (l.getD x []) (l.getD y []) < 0 ∨ cmpI (l.getD y []) (l.getD z []) < 0
  · exact .inl (t2 h)
  · by_cases e : cmpI (l.getD x []) (l.getD z []) < 0
    · exact .inl e
    · exact .inr ⟨by omega, by omega⟩
theorem pre_irrefl (l : List (List Int)) (x : Nat) : ¬ Pre l x x := by
  unfold Pre
  rw [cmpI_refl]
  omega
theorem pre_tot (l : List (List Int)) (x y : Nat) (h : x ≠ y) : Pre l x y ∨ Pre l y x := by
  unfold Pre
  have := cmpI_anti (l.getD x []) (l.getD y [])
  omega
/-- A row in the order Pre that has exactly the places below n. -/
def Placed (l : List (List Int)) (n : Nat) (p : List Nat) : Prop := p.Pairwise (Pre l) ∧ p.Perm (List.range n)
theorem placed_unique {l : List (List Int)} {n : Nat} {p q : List Nat} (h1 : Placed l n p) (h2 : Placed l n q) : p = q := by
  refine List.Perm.eq_of_pairwise (le := Pre l) (fun a b _ _ hab hba => ?_) h1.1 h2.1 (h1.2.trans h2.2.symm)
  exact absurd (pre_trans l _ _ _ hab hba) (pre_irrefl l a)
theorem placeF_spec (l : List (List Int)) : ∃ p : List Nat, placeF l = p.map (fun (i : Nat) => (i : Int)) ∧ Placed l l.length p := by
  unfold placeF
  split
  · rename_i h
    exact ⟨[], rfl, List.Pairwise.nil, by rw [h]; exact List.Perm.refl _⟩
  · rename_i k h
    have hs := Sets.stable_spec (α := Fin (k + 1)) (lt := ltOf (cfOf l k)) (pr := fun x y => Pre l x.val y.val) (idx := fun x => x.val) (fun x y z => pre_trans l _ _ _) (fun x y hxy => ⟨fun h => .inl (of_decide_eq_true h), fun h => by
      have h' : ¬ cfOf l k y x < 0 := of_decide_eq_false h
      have := cmpI_anti (l.getD y.val []) (l.getD x.val [])
      unfold cfOf at h'
      by_cases e : cmpI (l.getD x.val []) (l.getD y.val []) < 0
      · exact .inl e
      · exact .inr ⟨by omega, hxy⟩⟩) (Array.ofFn (fun x : Fin (k + 1) => x)) (by
        rw [Array.toList_ofFn]
        refine List.pairwise_iff_getElem.2 (fun i j hi hj hij => ?_)
        simp only [List.getElem_ofFn]; exact hij)
    refine ⟨(stable (ltOf (cfOf l k)) (Array.ofFn fun x => x)).toList.map (fun x => x.val), by rw [List.map_map]; rfl, ?_, ?_⟩
    · rw [List.pairwise_map]
      exact hs.2
    · refine (hs.1.map (fun x => x.val)).trans ?_
      rw [h, Array.toList_ofFn, List.map_ofFn]
      have : List.ofFn ((fun x : Fin (k + 1) => x.val) ∘ fun x => x) = List.range (k + 1) := by
        apply List.ext_getElem
        · simp
        · intro i h1 h2; simp only [List.getElem_ofFn, List.getElem_range]; rfl
      rw [this]
/-- Known by its properties. -/
theorem placeF_of (l : List (List Int)) (p : List Nat) (h : Placed l l.length p) : placeF l = p.map (fun (i : Nat) => (i : Int)) := by
  obtain ⟨q, h1, h2⟩ := placeF_spec l
  rw [h1, placed_unique h2 h]

theorem rdL_nat (l : List (List Int)) (i : Int) : rd_L1 l i = l.getD i.toNat [] := rfl
theorem Sort_l0 (l : List (List Int)) (p : List Int) (hp : ∀ x ∈ p, 0 ≤ x ∧ x < (l.length : Int)) (hw : ∀ x ∈ l, x.length ≤ 140737488355328) (hm : p.length ≤ 1000000) : ∀ (d k i : Nat) (acc : List (List Int)), i + d = p.length → d < k → acc.length + d < 5864062014805 →
    sets_Sort.l0 k l acc p (p.length : Int) (i : Int) = some (acc ++ (p.drop i).map (fun x => l.getD x.toNat [])) := by
  intro d
  induction d with
  | zero =>
    intro k i acc hi hk _
    obtain ⟨k, rfl⟩ : ∃ m, k = m + 1 := ⟨k - 1, by omega⟩
    simp only [sets_Sort.l0]
    rw [if_neg (by omega), List.drop_eq_nil_of_le (by omega)]
    simp
  | succ d ih =>
    intro k i acc hi hk ha
    obtain ⟨k, rfl⟩ : ∃ m, k = m + 1 := ⟨k - 1, by omega⟩
    have hil : i < p.length := by omega
    have hx := hp p[i] (List.getElem_mem hil)
    have hwx : (l.getD p[i].toNat []).length ≤ 140737488355328 := by
      have : p[i].toNat < l.length := by omega
      rw [List.getD_eq_getElem?_getD, List.getElem?_eq_getElem this]
      exact hw _ (List.getElem_mem this)
    simp only [sets_Sort.l0]
    rw [if_pos (by omega), if_pos (by omega), if_pos (by omega), rd_nat p i hil, if_pos hx.1, if_pos hx.2, rdL_nat]
    unfold bytes_Clone.f
    rw [if_pos hwx, Option.bind_some, if_pos (by omega), w64_nat hil (by omega), ih k (i + 1) _ (by omega) (by omega) (by simp; omega), List.drop_eq_getElem_cons hil, List.map_cons, List.append_assoc, List.singleton_append]
/-- What Sort tells: the rows, as Place says. -/
def sortL (l : List (List Int)) (p : List Nat) : List (List Int) := p.map (fun i => l.getD i [])
theorem Sort_f (l : List (List Int)) (p : List Nat) (hp : Placed l l.length p) (hw : ∀ x ∈ l, x.length ≤ 140737488355328) (hm : l.length ≤ 1000000) (k : Nat) (hk : l.length < k) : sets_Sort.f k l = some (sortL l p) := by
  have hl : p.length = l.length := by rw [hp.2.length_eq]; simp
  unfold sets_Sort.f sets_Place.f
  rw [if_pos hm, Option.bind_some, placeF_of l p hp]
  have := Sort_l0 l (p.map (fun (i : Nat) => (i : Int))) (fun x hx => by
    obtain ⟨i, hi, rfl⟩ := List.mem_map.1 hx
    have := hp.2.mem_iff.1 hi
    rw [List.mem_range] at this
    omega) hw (by simp; omega) l.length k 0 [] (by simp; omega) hk (by simp; omega)
  simp only [List.length_map, List.nil_append, List.drop_zero] at this
  rw [List.length_map]
  rw [show ((0 : Nat) : Int) = 0 from rfl] at this
  rw [this, List.map_map]
  rfl
theorem placed3 : Placed [[2], [1, 0], [1]] 3 [2, 1, 0] := by
  refine ⟨?_, by decide⟩
  simp only [List.pairwise_cons, List.mem_cons, List.not_mem_nil, or_false, forall_eq_or_imp, forall_eq, List.Pairwise.nil, and_true, false_implies, implies_true]
  unfold Pre
  decide
theorem placed2 : Placed [[2], [1]] 2 [1, 0] := by
  refine ⟨?_, by decide⟩
  simp only [List.pairwise_cons, List.mem_cons, List.not_mem_nil, or_false, forall_eq_or_imp, forall_eq, List.Pairwise.nil, and_true, false_implies, implies_true]
  unfold Pre
  decide
theorem wakes_true (k : Nat) (hk : 5 < k) : sobriquetlaw04_wakes.f k = some true := by
  unfold sobriquetlaw04_wakes.f
  rw [Sort_f _ _ placed3 (by decide) (by decide) k (by simp; omega), Option.bind_some]
  unfold sets_Place.f
  rw [if_pos (by decide), Option.bind_some, placeF_of _ _ placed2]
  have h1 : sortL [[2], [1, 0], [1]] [2, 1, 0] = [[1], [1, 0], [2]] := rfl
  rw [h1, if_pos (by decide), if_pos (by decide), if_pos (by decide), if_pos (by decide), if_pos (by decide), if_pos (by decide), if_pos (by decide)]
  have h2 : ([1, 0] : List Nat).map (fun (i : Nat) => (i : Int)) = [1, 0] := rfl
  rw [h2, Ints_f _ _ k (by decide) (by simp; omega)]
  rfl
end Go.Proofs.Ytmhkemgbienfiaa.Base
