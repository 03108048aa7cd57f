/- The plain law of Pack: whether a table is right; what a packed table tells of a number. -/
import Derived.Test.YtaniolefeieliaaVPd
namespace Go.Proofs.Ytaniolefeieliaa.Pk
open Go.RowKit Go.Proofs.YtaniolefeieliaaW.PrintWords Go.Proofs.YtaniolefeieliaaW.PrintLast
open Go.Proofs Go.Proofs.Ytaniolefeieliaa.Base
set_option linter.unusedVariables false
set_option linter.unusedSimpArgs false
set_option maxHeartbeats 1000000
theorem w64 {x : Int} (h0 : -9223372036854775808 ≤ x) (h1 : x ≤ 9223372036854775807) : wrap64 x = x := by unfold wrap64; omega
theorem w64_nat {i n : Nat} (h : i < n) (hn : n ≤ 4611686018427387904) : wrap64 ((i : Int) + 1) = ((i + 1 : Nat) : Int) := by unfold wrap64; omega
theorem rd_nat (xs : List Int) (i : Nat) (h : i < xs.length) : rd xs (i : Int) = xs[i] := by simp [rd, List.getD_eq_getElem?_getD, List.getElem?_eq_getElem h]
theorem wf64 {a : Int} (h : (Lit.int .i64 a).wf = true) : -9223372036854775808 ≤ a ∧ a ≤ 9223372036854775807 := by
  simpa [Lit.wf, show IntKind.i64.min = -9223372036854775808 from rfl] using h
theorem tdiv_nn {a : Int} (h : 0 ≤ a) (b : Int) : Int.tdiv a b = a / b := Int.tdiv_eq_ediv_of_nonneg h
theorem tmod_nn {a : Int} (h : 0 ≤ a) (b : Int) : Int.tmod a b = a % b := Int.tmod_eq_emod_of_nonneg h
theorem dec_iff (p q : Prop) [Decidable p] [Decidable q] (h : p ↔ q) : decide p = decide q := by simp [h]
theorem dec_t (p : Prop) [Decidable p] (h : p) : decide p = true := by simp [h]
theorem dec_f (p : Prop) [Decidable p] (h : ¬ p) : decide p = false := by simp [h]
theorem tmod_bd (a c : Int) (hc : 0 < c) : -c < Int.tmod a c ∧ Int.tmod a c < c := by
  have h1 := Int.emod_nonneg a (b := c) (by omega)
  have h2 := Int.emod_lt_of_pos a hc
  have h3 : ((c.natAbs : Nat) : Int) = c := by omega
  have h4 := Int.tmod_lt_of_pos a hc
  refine ⟨?_, h4⟩
  rw [Int.tmod_eq_emod]
  split
  · omega
  · rename_i h
    have : a % c ≠ 0 := fun e => h (.inr (Int.dvd_of_emod_eq_zero e))
    omega
theorem w64l (x y : Int) (h : x = y ∧ -9223372036854775808 ≤ y ∧ y ≤ 9223372036854775807) : wrap64 x = y := by rw [h.1]; exact w64 h.2.1 h.2.2
/-! ### Right tables -/
def okS (x : S44) : Prop := 0 ≤ x.f0 ∧ x.f0 ≤ x.f1 ∧ x.f1 ≤ 1114111 ∧ 1 ≤ x.f2 ∧ x.f2 ≤ 65535
def Right (l : List S44) : Prop := (∀ x ∈ l, okS x) ∧ l.Pairwise (fun a b => a.f1 < b.f0)
theorem rdT (l : List S44) (i : Nat) (h : i < l.length) : rd_T44 l (i : Int) = l[i] := by simp [rd_T44, List.getD_eq_getElem?_getD, List.getElem?_eq_getElem h]
theorem right_f (x : S44) (p : List S44) (hp : p.length ≤ 2000) : ∃ b, ranges_right.f x.f0 x.f1 x.f2 p = some b ∧ (b = true → okS x ∧ ∀ (h : 0 < p.length), (p[p.length - 1]).f1 < x.f0) := by
  unfold ranges_right.f okS
  by_cases h1 : x.f0 < 0
  · rw [if_pos h1]; exact ⟨_, rfl, fun q => by cases q⟩
  rw [if_neg h1]
  by_cases h2 : x.f1 < x.f0
  · rw [if_pos h2]; exact ⟨_, rfl, fun q => by cases q⟩
  rw [if_neg h2]
  by_cases h3 : x.f1 > 1114111
  · rw [if_pos h3]; exact ⟨_, rfl, fun q => by cases q⟩
  rw [if_neg h3]
  by_cases h4 : x.f2 < 1
  · rw [if_pos h4]; exact ⟨_, rfl, fun q => by cases q⟩
  rw [if_neg h4]
  by_cases h5 : x.f2 > 65535
  · rw [if_pos h5]; exact ⟨_, rfl, fun q => by cases q⟩
  rw [if_neg h5]
  by_cases h6 : (p.length : Int) = 0
  · rw [if_pos h6]
    exact ⟨_, rfl, fun _ => ⟨by omega, fun h => by omega⟩⟩
  · have e : wrap64 ((p.length : Int) - 1) = ((p.length - 1 : Nat) : Int) := by rw [w64 (by omega) (by omega)]; omega
    rw [if_neg h6, e, if_pos (by omega), if_pos (by omega), rdT p (p.length - 1) (by omega)]
    refine ⟨_, rfl, fun q => ⟨by omega, fun _ => ?_⟩⟩
    exact of_decide_eq_true q
theorem check_l0 (l : List S44) (hm : l.length ≤ 2000) : ∀ (d k i : Nat), i + d = l.length → d < k → ∃ e, ranges_Check.l0 k l l (l.length : Int) (i : Int) = some e ∧ (e = 0 ∨ e = 1) ∧
    (e = 0 → ∀ j (h : j < l.length), i ≤ j → okS l[j] ∧ ∀ (h0 : 0 < j), (l[j - 1]).f1 < (l[j]).f0) := by
  intro d
  induction d with
  | zero =>
    intro k i hi hk
    obtain ⟨k, rfl⟩ : ∃ m, k = m + 1 := ⟨k - 1, by omega⟩
    simp only [ranges_Check.l0]
    rw [if_neg (by omega)]
    exact ⟨0, rfl, .inl rfl, fun _ j h hj => by omega⟩
  | succ d ih =>
    intro k i hi hk
    obtain ⟨k, rfl⟩ : ∃ m, k = m + 1 := ⟨k - 1, by omega⟩
    have hil : i < l.length := by omega
    obtain ⟨b, hb1, hb2⟩ := right_f l[i] (l.take i) (by rw [List.length_take]; omega)
    simp only [ranges_Check.l0]
    rw [if_pos (by omega), if_pos (by omega), if_pos (by omega), if_pos (by omega), rdT l i hil, Int.toNat_natCast, hb1, Option.bind_some]
    cases b with
    | false =>
      rw [if_neg (by decide)]
      exact ⟨1, rfl, .inr rfl, fun h => by omega⟩
    | true =>
      rw [if_pos rfl, w64_nat hil (by omega)]
      obtain ⟨e, he1, he2, he3⟩ := ih k (i + 1) (by omega) (by omega)
      refine ⟨e, he1, he2, fun h0 j hj hij => ?_⟩
      by_cases q : j = i
      · subst q
        obtain ⟨q1, q2⟩ := hb2 rfl
        refine ⟨q1, fun hj0 => ?_⟩
        have := q2 (by rw [List.length_take]; omega)
        rw [List.getElem_take] at this
        have e2 : (l.take j).length - 1 = j - 1 := by rw [List.length_take]; omega
        simpa only [e2] using this
      · exact he3 h0 j hj (by omega)
theorem check_f (l : List S44) (k : Nat) (hk : l.length < k) : ∃ e, ranges_Check.f k l = some e ∧ (e = 0 ∨ e = 1) ∧ (e = 0 → Right l) := by
  unfold ranges_Check.f
  by_cases h : (l.length : Int) > 2000
  · rw [if_pos h]
    exact ⟨1, rfl, .inr rfl, fun h => by omega⟩
  · rw [if_neg h]
    obtain ⟨e, he1, he2, he3⟩ := check_l0 l (by omega) l.length k 0 (by omega) hk
    refine ⟨e, he1, he2, fun h0 => ?_⟩
    have hh := fun j hj => he3 h0 j hj (Nat.zero_le _)
    refine ⟨fun x hx => ?_, ?_⟩
    · obtain ⟨j, hj, rfl⟩ := List.getElem_of_mem hx
      exact (hh j hj).1
    · refine List.pairwise_iff_getElem.2 (fun i j hi hj hij => ?_)
      have key : ∀ d i (hi : i < l.length) (hd : i + d + 1 < l.length), (l[i]).f1 < (l[i + d + 1]).f0 := by
        intro d
        induction d with
        | zero => intro i hi hd; exact (hh (i + 1) hd).2 (by omega)
        | succ d ih =>
          intro i hi hd
          have h1 := ih i hi (by omega)
          have h2 := (hh (i + d + 1) (by omega)).1
          have h3 := (hh (i + (d + 1) + 1) hd).2 (by omega)
          have e : i + (d + 1) + 1 - 1 = i + d + 1 := by omega
          simp only [e] at h3
          unfold okS at h2
          omega
      have := key (j - i - 1) i hi (by omega)
      simpa only [show i + (j - i - 1) + 1 = j by omega] using this
/-! ### A number's value -/
def hasB (c : Int) (x : S44) : Bool := decide (x.f0 ≤ c) && decide (c ≤ x.f1)
def flatV (l : List S44) (c : Int) : Int := match l.find? (hasB c) with | some x => x.f2 | none => 0
theorem has_iff (c : Int) (x : S44) : hasB c x = true ↔ x.f0 ≤ c ∧ c ≤ x.f1 := by simp [hasB]
theorem foldl_keep (c : Int) : ∀ (l : List S44) (v : Int), (∀ x ∈ l, ¬ (x.f0 ≤ c ∧ c ≤ x.f1)) → l.foldl (fun v x => if x.f0 ≤ c ∧ c ≤ x.f1 then x.f2 else v) v = v
  | [], v, _ => rfl
  | x :: r, v, h => by
    rw [List.foldl_cons, if_neg (h x List.mem_cons_self)]
    exact foldl_keep c r v (fun y hy => h y (List.mem_cons_of_mem _ hy))
theorem valF_cons (x : S44) (r : List S44) (c : Int) (h : ¬ (x.f0 ≤ c ∧ c ≤ x.f1)) : valF (x :: r) c = valF r c := by
  unfold valF
  rw [List.foldl_cons, if_neg h]
theorem valF_none (l : List S44) (c : Int) (h : ∀ x ∈ l, ¬ (x.f0 ≤ c ∧ c ≤ x.f1)) : valF l c = 0 := foldl_keep c l 0 h
theorem flat_val {l : List S44} (hR : Right l) (c : Int) : flatV l c = valF l c := by
  induction l with
  | nil => rfl
  | cons x r ih =>
    obtain ⟨h1, h2⟩ := hR
    obtain ⟨h3, h4⟩ := List.pairwise_cons.1 h2
    unfold flatV
    rw [List.find?_cons]
    by_cases h : x.f0 ≤ c ∧ c ≤ x.f1
    · rw [(has_iff c x).2 h]
      unfold valF
      rw [List.foldl_cons, if_pos h, foldl_keep c r]
      intro y hy hy2
      have := h3 y hy
      omega
    · have e : hasB c x = false := by rw [← Bool.not_eq_true, has_iff]; exact h
      rw [e, valF_cons x r c h]
      exact ih ⟨fun y hy => h1 y (List.mem_cons_of_mem _ hy), h4⟩
theorem flat_at {l : List S44} (hR : Right l) (i : Nat) (hi : i < l.length) (c : Int) (h : (l[i]).f0 ≤ c ∧ c ≤ (l[i]).f1) : flatV l c = (l[i]).f2 := by
  induction l generalizing i with
  | nil => simp at hi
  | cons x r ih =>
    obtain ⟨h1, h2⟩ := hR
    obtain ⟨h3, h4⟩ := List.pairwise_cons.1 h2
    unfold flatV
    rw [List.find?_cons]
    cases i with
    | zero =>
      rw [(has_iff c x).2 h]
      rfl
    | succ i =>
      rw [List.getElem_cons_succ] at h ⊢
      have hm := List.getElem_mem (l := r) (n := i) (by simpa using hi)
      have e : hasB c x = false := by
        rw [← Bool.not_eq_true, has_iff]
        intro q
        have := h3 _ hm
        omega
      rw [e]
      exact ih ⟨fun y hy => h1 y (List.mem_cons_of_mem _ hy), h4⟩ i (by simpa using hi) h
theorem flat_out {l : List S44} (hR : Right l) (c : Int) (h : c < 0 ∨ 1114111 < c) : flatV l c = 0 := by
  unfold flatV
  cases q : l.find? (hasB c) with
  | none => rfl
  | some x =>
    have h1 := List.find?_some q
    have h2 := hR.1 x (List.mem_of_find?_eq_some q)
    rw [has_iff] at h1
    unfold okS at h2
    omega
/-! ### The packed table -/
theorem trim_val (l : List S44) (lim c : Int) (h : lim ≤ c) : valF (trimF l lim) c = valF l c := by
  induction l with
  | nil => rfl
  | cons x r ih =>
    unfold trimF
    rw [List.dropWhile_cons]
    by_cases q : x.f1 < lim
    · rw [if_pos (decide_eq_true q), valF_cons x r c (by omega)]
      exact ih
    · rw [if_neg (by simpa using q)]
def Said (L : List S44) (ix : List Int) (bs : List (List Int)) (n : Nat) : Prop := ix.length = n ∧ (∀ b ∈ bs, b.length = 256) ∧ ∀ j (h : j < ix.length), ∃ m, ix[j] = ((m : Nat) : Int) ∧ bs[m]? = some (blockF L (256 * (j : Int)))
theorem block_same {l L : List S44} {i : Nat} (h : ∀ c : Int, 256 * (i : Int) ≤ c → valF l c = valF L c) : blockF l (256 * (i : Int)) = blockF L (256 * (i : Int)) := by
  unfold blockF
  refine List.map_congr_left (fun j _ => h _ (by omega))
theorem put_old {bs : List (List Int)} {b x : List Int} {m : Nat} (h : bs[m]? = some x) : (put1 bs b)[m]? = some x := by
  unfold put1
  split
  · exact h
  · rw [List.getElem?_append_left (List.getElem?_eq_some_iff.1 h).1]; exact h
theorem put_new (bs : List (List Int)) (b : List Int) : (put1 bs b)[bs.idxOf b]? = some b := by
  unfold put1
  by_cases h : b ∈ bs
  · rw [if_pos h, List.getElem?_eq_getElem (List.idxOf_lt_length_of_mem h)]
    simp
  · rw [if_neg h, List.idxOf_eq_length h]
    simp
theorem go_said (L : List S44) : ∀ (d i : Nat) (l : List S44) (ix : List Int) (bs : List (List Int)), (∀ c : Int, 256 * (i : Int) ≤ c → valF l c = valF L c) → Said L ix bs i → Said L (packGo d l i ix bs).1 (packGo d l i ix bs).2 (i + d) := by
  intro d
  induction d with
  | zero => intro i l ix bs _ h; exact h
  | succ d ih =>
    intro i l ix bs hv hS
    rw [packGo, show i + (d + 1) = (i + 1) + d by omega]
    refine ih (i + 1) _ _ _ (fun c hc => ?_) ?_
    · rw [trim_val _ _ _ (by omega)]
      exact hv c (by omega)
    · obtain ⟨h1, h2, h3⟩ := hS
      have hb := block_same hv
      rw [hb]
      refine ⟨by rw [List.length_append, List.length_singleton, h1], fun b hb => ?_, fun j hj => ?_⟩
      · unfold put1 at hb
        split at hb
        · exact h2 b hb
        · rcases List.mem_append.1 hb with hb | hb
          · exact h2 b hb
          · rw [List.mem_singleton.1 hb]; exact block_len _ _
      · by_cases q : j < ix.length
        · obtain ⟨m, hm1, hm2⟩ := h3 j q
          exact ⟨m, by rw [List.getElem_append_left q]; exact hm1, put_old hm2⟩
        · have e : j = i := by rw [List.length_append, List.length_singleton] at hj; omega
          subst e
          refine ⟨_, ?_, put_new bs _⟩
          rw [List.getElem_append_right (by omega)]
          simp
theorem pack_said (l : List S44) : Said l (packGo 4352 l 0 [] []).1 (packGo 4352 l 0 [] []).2 4352 := by
  have := go_said l 4352 0 l [] [] (fun _ _ => rfl) ⟨rfl, fun b hb => (by cases hb), fun j hj => absurd hj (Nat.not_lt_zero _)⟩
  simpa using this
theorem flat_get : ∀ (bs : List (List Int)) (m r : Nat) (b : List Int), (∀ b ∈ bs, b.length = 256) → bs[m]? = some b → r < 256 → bs.flatten[256 * m + r]? = b[r]?
  | [], m, r, b, _, h, _ => by simp at h
  | x :: bs, 0, r, b, hl, h, hr => by
    obtain rfl : x = b := by simpa using h
    rw [List.flatten_cons, List.getElem?_append_left (by rw [hl x List.mem_cons_self]; omega), Nat.mul_zero, Nat.zero_add]
  | x :: bs, m + 1, r, b, hl, h, hr => by
    have hx := hl x List.mem_cons_self
    rw [List.flatten_cons, List.getElem?_append_right (by omega), hx, show 256 * (m + 1) + r - 256 = 256 * m + r by omega]
    exact flat_get bs m r b (fun y hy => hl y (List.mem_cons_of_mem _ hy)) (by simpa using h) hr
theorem put_len (bs : List (List Int)) (b : List Int) : (put1 bs b).length ≤ bs.length + 1 := by
  unfold put1
  split
  · omega
  · rw [List.length_append, List.length_singleton]; omega
theorem go_len : ∀ (d i : Nat) (l : List S44) (ix : List Int) (bs : List (List Int)), (packGo d l i ix bs).2.length ≤ bs.length + d
  | 0, _, _, _, _ => Nat.le_refl _
  | d + 1, i, l, ix, bs => by
    rw [packGo]
    have h1 := go_len d (i + 1) (trimF l (256 * (i : Int) + 256)) (ix ++ [(((bs.idxOf (blockF l (256 * (i : Int)))) : Nat) : Int)]) (put1 bs (blockF l (256 * (i : Int))))
    have h2 := put_len bs (blockF l (256 * (i : Int)))
    omega
theorem block_at (L : List S44) (f : Int) (r : Nat) (h : r < 256) : (blockF L f)[r]? = some (valF L (f + (r : Int))) := by
  unfold blockF
  rw [List.getElem?_map, List.getElem?_range h]
  rfl
theorem put_mem {bs : List (List Int)} {b : List Int} (h : b ∈ bs) : put1 bs b = bs := by
  unfold put1
  rw [if_pos h]
theorem go_nil : ∀ (d i : Nat) (ix : List Int) (bs : List (List Int)), List.replicate 256 0 ∈ bs → (packGo d [] i ix bs).2 = bs
  | 0, _, _, _, _ => rfl
  | d + 1, i, ix, bs, h => by
    rw [packGo, block_nil, put_mem h]
    exact go_nil d (i + 1) _ bs h
def one : S44 := ⟨300, 301, 7⟩
theorem one_0 : blockF [one] 0 = List.replicate 256 0 := by decide +kernel
theorem one_1 : blockF [one] 256 ∉ [List.replicate 256 (0 : Int)] := by decide +kernel
theorem one_t0 : trimF [one] 256 = [one] := rfl
theorem one_t1 : trimF [one] 512 = [] := rfl
theorem pack_one : (packGo 4352 [one] 0 [] []).2 = [List.replicate 256 0, blockF [one] 256] := by
  have h0 : put1 [] (List.replicate 256 (0 : Int)) = [List.replicate 256 0] := rfl
  have h1 : put1 [List.replicate 256 (0 : Int)] (blockF [one] 256) = [List.replicate 256 0, blockF [one] 256] := by
    unfold put1
    rw [if_neg one_1]
    rfl
  rw [show (4352 : Nat) = 4350 + 1 + 1 from rfl, packGo, packGo]
  have e0 : (256 : Int) * ((0 : Nat) : Int) = 0 := rfl
  have e1 : (256 : Int) * ((0 + 1 : Nat) : Int) = 256 := rfl
  rw [e0, e1, one_0, h0]
  have e2 : (0 : Int) + 256 = 256 := rfl
  have e3 : (256 : Int) + 256 = 512 := rfl
  rw [e2, one_t0, h1, e3, one_t1]
  exact go_nil _ _ _ _ List.mem_cons_self
theorem one_wrong : ([List.replicate 256 0, blockF [one] 256].flatten).any wrongB = false := by decide +kernel
end Go.Proofs.Ytaniolefeieliaa.Pk
