/- The plain law of Pack: when Check says yes; packing depends on the values alone. -/
import Derived.Test.YtaniolefeieliaaVPq
namespace Go.Proofs.Ytaniolefeieliaa.Pk
open Go.RowKit Go.Proofs.YtaniolefeieliaaW.PrintWords Go.Proofs.YtaniolefeieliaaW.PrintLast
open Go.Proofs Go.Proofs.Ytaniolefeieliaa.Base
set_option linter.unusedVariables false
set_option linter.unusedSimpArgs false
set_option maxHeartbeats 1000000
theorem right_t (x : S44) (p : List S44) (hp : p.length ≤ 2000) (hx : okS x) (h : ∀ (h : 0 < p.length), (p[p.length - 1]).f1 < x.f0) : ranges_right.f x.f0 x.f1 x.f2 p = some true := by
  unfold okS at hx
  unfold ranges_right.f
  rw [if_neg (by omega), if_neg (by omega), if_neg (by omega), if_neg (by omega), if_neg (by omega)]
  by_cases h6 : (p.length : Int) = 0
  · rw [if_pos h6]
  · have e : wrap64 ((p.length : Int) - 1) = ((p.length - 1 : Nat) : Int) := by rw [w64 (by omega) (by omega)]; omega
    have := h (by omega)
    rw [if_neg h6, e, if_pos (by omega), if_pos (by omega), rdT p (p.length - 1) (by omega), decide_eq_true (by omega)]
theorem check_ok0 (l : List S44) (hm : l.length ≤ 2000) (hR : Right l) : ∀ (d k i : Nat), i + d = l.length → d < k → ranges_Check.l0 k l l (l.length : Int) (i : Int) = some 0 := by
  intro d
  induction d with
  | zero =>
    intro k i hi hk
    obtain ⟨k, rfl⟩ : ∃ m, k = m + 1 := ⟨k - 1, by omega⟩
    rw [ranges_Check.l0, if_neg (by omega)]
  | succ d ih =>
    intro k i hi hk
    obtain ⟨k, rfl⟩ : ∃ m, k = m + 1 := ⟨k - 1, by omega⟩
    have hil : i < l.length := by omega
    have hr := right_t l[i] (l.take i) (by rw [List.length_take]; omega) (hR.1 _ (List.getElem_mem hil)) (fun h => by
      have e : (l.take i).length = i := by rw [List.length_take]; omega
      have h0 : 0 < i := by rw [e] at h; exact h
      have e2 : ((l.take i)[(l.take i).length - 1]) = l[i - 1] := by simp only [List.getElem_take, e]
      rw [e2]
      exact (List.pairwise_iff_getElem.1 hR.2) (i - 1) i (by omega) hil (by omega))
    rw [ranges_Check.l0, if_pos (by omega), if_pos (by omega), if_pos (by omega), if_pos (by omega), rdT l i hil, Int.toNat_natCast, hr, Option.bind_some, if_pos rfl, w64_nat hil (by omega)]
    exact ih k (i + 1) (by omega) (by omega)
theorem check_ok (l : List S44) (hm : l.length ≤ 2000) (hR : Right l) (k : Nat) (hk : l.length < k) : ranges_Check.f k l = some 0 := by
  unfold ranges_Check.f
  rw [if_neg (by omega)]
  exact check_ok0 l hm hR l.length k 0 (by omega) hk
theorem go_same : ∀ (d i : Nat) (l l' : List S44) (ix : List Int) (bs : List (List Int)), (∀ c : Int, 256 * (i : Int) ≤ c → valF l c = valF l' c) → packGo d l i ix bs = packGo d l' i ix bs
  | 0, _, _, _, _, _, _ => rfl
  | d + 1, i, l, l', ix, bs, hv => by
    rw [packGo, packGo, block_same hv]
    exact go_same d (i + 1) _ _ _ _ (fun c hc => by rw [trim_val _ _ _ (by omega), trim_val _ _ _ (by omega)]; exact hv c (by omega))
theorem flat_in {L : List S44} {c : Int} (h : flatV L c ≠ 0) : ∃ x ∈ L, x.f0 ≤ c ∧ c ≤ x.f1 ∧ flatV L c = x.f2 := by
  unfold flatV at h ⊢
  cases q : L.find? (hasB c) with
  | none => rw [q] at h; exact absurd rfl h
  | some x =>
    have h1 := List.find?_some q
    rw [has_iff] at h1
    exact ⟨x, List.mem_of_find?_eq_some q, h1.1, h1.2, rfl⟩
theorem flat_mem {L : List S44} (hR : Right L) {x : S44} (hx : x ∈ L) {c : Int} (h0 : x.f0 ≤ c) (h1 : c ≤ x.f1) : flatV L c = x.f2 := by
  obtain ⟨i, hi, rfl⟩ := List.getElem_of_mem hx
  exact flat_at hR i hi c ⟨h0, h1⟩
theorem nodup_le2 : ∀ (a b : List Int), a.Nodup → (∀ x ∈ a, x ∈ b) → a.length ≤ b.length
  | [], b, _, _ => Nat.zero_le _
  | x :: r, b, h, hs => by
    obtain ⟨h1, h2⟩ := List.pairwise_cons.1 h
    have hx := hs x List.mem_cons_self
    have := nodup_le2 r (b.erase x) h2 (fun y hy => (List.mem_erase_of_ne (Ne.symm (h1 y hy))).2 (hs y (List.mem_cons_of_mem _ hy)))
    rw [List.length_erase_of_mem hx] at this
    have := List.length_pos_of_mem hx
    rw [List.length_cons]
    omega
/-! ### Taken apart -/
/-- One number more. -/
def unp1 (acc : List S44) (c v : Int) : List S44 := if v = 0 then acc else if 0 < acc.length ∧ (acc.getD (acc.length - 1) ⟨0, 0, 0⟩).f1 = c - 1 ∧ (acc.getD (acc.length - 1) ⟨0, 0, 0⟩).f2 = v then acc.set (acc.length - 1) ⟨(acc.getD (acc.length - 1) ⟨0, 0, 0⟩).f0, c, v⟩ else acc ++ [⟨c, c, v⟩]
structure Inv (V : Int → Int) (acc : List S44) (c : Int) : Prop where
  ok : ∀ x ∈ acc, 0 ≤ x.f0 ∧ x.f0 ≤ x.f1 ∧ x.f1 < c ∧ x.f2 ≠ 0 ∧ V (x.f0 - 1) ≠ x.f2 ∧ ∀ j, x.f0 ≤ j → j ≤ x.f1 → V j = x.f2
  pw : acc.Pairwise (fun a b => a.f1 < b.f0)
  all : ∀ j : Int, 0 ≤ j → j < c → V j ≠ 0 → ∃ x ∈ acc, x.f0 ≤ j ∧ j ≤ x.f1
theorem getD_last (p : List S44) (x : S44) : (p ++ [x]).getD ((p ++ [x]).length - 1) ⟨0, 0, 0⟩ = x := by
  simp [List.getD_eq_getElem?_getD]
theorem set_last (p : List S44) (x y : S44) : (p ++ [x]).set ((p ++ [x]).length - 1) y = p ++ [y] := by
  simp [List.set_append_right]
theorem inv_step (V : Int → Int) (hV : V (-1) = 0) (acc : List S44) (c : Int) (hc : 0 ≤ c) (h : Inv V acc c) : Inv V (unp1 acc c (V c)) (c + 1) := by
  unfold unp1
  by_cases h0 : V c = 0
  · rw [if_pos h0]
    refine ⟨fun x hx => ?_, h.pw, fun j j0 j1 jn => ?_⟩
    · obtain ⟨a1, a2, a3, a4, a5, a6⟩ := h.ok x hx
      exact ⟨a1, a2, by omega, a4, a5, a6⟩
    · by_cases q : j = c
      · exact absurd (q ▸ h0) jn
      · exact h.all j j0 (by omega) jn
  rw [if_neg h0]
  rcases List.eq_nil_or_concat acc with rfl | ⟨p, y, rfl⟩
  · rw [if_neg (by simp)]
    refine ⟨fun x hx => ?_, List.pairwise_singleton _ _, fun j j0 j1 jn => ?_⟩
    · rw [List.nil_append, List.mem_singleton] at hx
      subst hx
      refine ⟨hc, Int.le_refl _, by show c < c + 1; omega, h0, fun q => ?_, fun j q1 q2 => ?_⟩
      · replace q : V (c - 1) = V c := q
        by_cases c0 : c = 0
        · subst c0; rw [show (0 : Int) - 1 = -1 from rfl, hV] at q; exact h0 q.symm
        · obtain ⟨x, hx, _⟩ := h.all (c - 1) (by omega) (by omega) (by rw [q]; exact h0)
          cases hx
      · have e : j = c := by replace q1 : c ≤ j := q1; replace q2 : j ≤ c := q2; omega
        rw [e]
    · by_cases q : j = c
      · exact ⟨⟨c, c, V c⟩, List.mem_singleton.2 rfl, by show c ≤ j; omega, by show j ≤ c; omega⟩
      · obtain ⟨x, hx, _⟩ := h.all j j0 (by omega) jn
        cases hx
  · rw [List.concat_eq_append] at h ⊢
    rw [getD_last, set_last]
    have hy := h.ok y (List.mem_append_right _ (List.mem_singleton.2 rfl))
    obtain ⟨y1, y2, y3, y4, y5, y6⟩ := hy
    obtain ⟨pw1, pw2, pw3⟩ := List.pairwise_append.1 h.pw
    by_cases hm : 0 < (p ++ [y]).length ∧ y.f1 = c - 1 ∧ y.f2 = V c
    · rw [if_pos hm]
      obtain ⟨_, m1, m2⟩ := hm
      refine ⟨fun x hx => ?_, List.pairwise_append.2 ⟨pw1, List.pairwise_singleton _ _, fun a ha b hb => ?_⟩, fun j j0 j1 jn => ?_⟩
      · rcases List.mem_append.1 hx with hx | hx
        · obtain ⟨a1, a2, a3, a4, a5, a6⟩ := h.ok x (List.mem_append_left _ hx)
          exact ⟨a1, a2, by omega, a4, a5, a6⟩
        · rw [List.mem_singleton] at hx
          subst hx
          refine ⟨y1, by show y.f0 ≤ c; omega, by show c < c + 1; omega, h0, by show V (y.f0 - 1) ≠ V c; rw [← m2]; exact y5, fun j q1 q2 => ?_⟩
          replace q1 : y.f0 ≤ j := q1
          replace q2 : j ≤ c := q2
          by_cases q : j = c
          · rw [q]
          · rw [y6 j q1 (by omega)]; exact m2
      · rw [List.mem_singleton.1 hb]
        exact pw3 a ha y (List.mem_singleton.2 rfl)
      · by_cases q : j = c
        · exact ⟨_, List.mem_append_right _ (List.mem_singleton.2 rfl), by show y.f0 ≤ j; omega, by show j ≤ c; omega⟩
        · obtain ⟨x, hx, x1, x2⟩ := h.all j j0 (by omega) jn
          rcases List.mem_append.1 hx with hx | hx
          · exact ⟨x, List.mem_append_left _ hx, x1, x2⟩
          · rw [List.mem_singleton] at hx
            subst hx
            exact ⟨_, List.mem_append_right _ (List.mem_singleton.2 rfl), x1, by show j ≤ c; omega⟩
    · rw [if_neg hm]
      refine ⟨fun x hx => ?_, List.pairwise_append.2 ⟨h.pw, List.pairwise_singleton _ _, fun a ha b hb => ?_⟩, fun j j0 j1 jn => ?_⟩
      · rcases List.mem_append.1 hx with hx | hx
        · obtain ⟨a1, a2, a3, a4, a5, a6⟩ := h.ok x hx
          exact ⟨a1, a2, by omega, a4, a5, a6⟩
        · rw [List.mem_singleton] at hx
          subst hx
          refine ⟨hc, Int.le_refl _, by show c < c + 1; omega, h0, fun q => ?_, fun j q1 q2 => ?_⟩
          · replace q : V (c - 1) = V c := q
            by_cases c0 : c = 0
            · subst c0; rw [show (0 : Int) - 1 = -1 from rfl, hV] at q; exact h0 q.symm
            · obtain ⟨x, hx, x1, x2⟩ := h.all (c - 1) (by omega) (by omega) (by rw [q]; exact h0)
              obtain ⟨a1, a2, a3, a4, a5, a6⟩ := h.ok x hx
              rcases List.mem_append.1 hx with hx | hx
              · have := pw3 x hx y (List.mem_singleton.2 rfl)
                omega
              · rw [List.mem_singleton] at hx
                subst hx
                refine hm ⟨by simp, by omega, ?_⟩
                rw [← q]
                exact (a6 (c - 1) x1 x2).symm
          · have e : j = c := by replace q1 : c ≤ j := q1; replace q2 : j ≤ c := q2; omega
            rw [e]
      · rw [List.mem_singleton.1 hb]
        exact (h.ok a ha).2.2.1
      · by_cases q : j = c
        · exact ⟨_, List.mem_append_right _ (List.mem_singleton.2 rfl), by show c ≤ j; omega, by show j ≤ c; omega⟩
        · obtain ⟨x, hx, x1, x2⟩ := h.all j j0 (by omega) jn
          exact ⟨x, List.mem_append_left _ hx, x1, x2⟩
theorem inv_nil (V : Int → Int) : Inv V [] 0 := ⟨fun x hx => absurd hx (by simp), List.Pairwise.nil, fun j h0 h1 => absurd h0 (by omega)⟩
/-- No more ranges than there were. -/
theorem inv_few (L : List S44) (hR : Right L) (acc : List S44) (c : Int) (h : Inv (flatV L) acc c) : acc.length ≤ L.length := by
  have := nodup_le2 (acc.map (·.f0)) (L.map (·.f0)) ?_ ?_
  · rwa [List.length_map, List.length_map] at this
  · refine List.pairwise_map.2 ?_
    have hp := h.pw
    have hok := h.ok
    clear h
    induction acc with
    | nil => exact List.Pairwise.nil
    | cons x r ih =>
      obtain ⟨p1, p2⟩ := List.pairwise_cons.1 hp
      refine List.pairwise_cons.2 ⟨fun y hy => ?_, ih p2 (fun z hz => hok z (List.mem_cons_of_mem _ hz))⟩
      have := p1 y hy
      have := (hok x List.mem_cons_self).2.1
      show x.f0 ≠ y.f0
      omega
  · intro v hv
    obtain ⟨x, hx, rfl⟩ := List.mem_map.1 hv
    obtain ⟨a1, a2, a3, a4, a5, a6⟩ := h.ok x hx
    have hn : flatV L x.f0 = x.f2 := a6 _ (Int.le_refl _) a2
    obtain ⟨y, hy, y1, y2, y3⟩ := flat_in (by rw [hn]; exact a4)
    by_cases q : y.f0 = x.f0
    · exact List.mem_map.2 ⟨y, hy, q⟩
    · refine absurd ?_ a5
      rw [flat_mem hR hy (by omega) (by omega), ← y3, hn]
theorem inv_right (L : List S44) (hR : Right L) (acc : List S44) (h : Inv (flatV L) acc 1114112) : Right acc := by
  refine ⟨fun x hx => ?_, h.pw⟩
  obtain ⟨a1, a2, a3, a4, a5, a6⟩ := h.ok x hx
  have hn : flatV L x.f0 = x.f2 := a6 _ (Int.le_refl _) a2
  obtain ⟨y, hy, y1, y2, y3⟩ := flat_in (by rw [hn]; exact a4)
  have := hR.1 y hy
  unfold okS at this ⊢
  omega
theorem inv_val (L : List S44) (hR : Right L) (acc : List S44) (h : Inv (flatV L) acc 1114112) (c : Int) (hc : 0 ≤ c) : valF acc c = valF L c := by
  have hA := inv_right L hR acc h
  rw [← flat_val hA, ← flat_val hR]
  by_cases c1 : 1114111 < c
  · rw [flat_out hA c (.inr c1), flat_out hR c (.inr c1)]
  by_cases q : flatV L c = 0
  · by_cases q2 : flatV acc c = 0
    · rw [q, q2]
    · obtain ⟨x, hx, x1, x2, x3⟩ := flat_in q2
      rw [x3, (h.ok x hx).2.2.2.2.2 c x1 x2]
  · obtain ⟨x, hx, x1, x2⟩ := h.all c hc (by omega) q
    rw [flat_mem hA hx x1 x2, (h.ok x hx).2.2.2.2.2 c x1 x2]
theorem inv_pack (L : List S44) (hR : Right L) (acc : List S44) (h : Inv (flatV L) acc 1114112) : packGo 4352 acc 0 [] [] = packGo 4352 L 0 [] [] :=
  go_same 4352 0 acc L [] [] (fun c hc => inv_val L hR acc h c (by omega))
end Go.Proofs.Ytaniolefeieliaa.Pk
