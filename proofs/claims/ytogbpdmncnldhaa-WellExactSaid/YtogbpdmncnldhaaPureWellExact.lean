/- WellExact: for any bytes Check, Parts and Depth tell what the document says. -/
import Derived.Test.YtogbpdmncnldhaaMWellExactx4
namespace Go.Proofs.Ytogbpdmncnldhaa.Pure
open Go.RowKit Go.Proofs.Ytogbpdmncnldhaa.MWellExact Go.Proofs.YtogbpdmncnldhaaW.PrintWords Go.Proofs.YtogbpdmncnldhaaW.PrintLast
set_option linter.unusedVariables false
set_option linter.unusedSimpArgs false
set_option maxHeartbeats 1000000

open Go.Proofs.Ytogbpdmncnldhaa.Base hiding well_Check.f well_Check.mono well_Check.calls well_Depth.f well_Depth.mono well_Depth.calls well_Parts.f well_Parts.mono well_Parts.calls tlv_Read.f tlv_Read.mono tlv_Read.calls bytes_Clone.f bytes_Clone.calls tlv_One.f tlv_One.mono tlv_One.calls sobriquetref01_septets.f sobriquetref01_septets.l0 sobriquetref01_septets.mono
theorem mCheck (l : List Int) (hl : l.length ≤ 1000000) (hb : ∀ x ∈ l, 0 ≤ x ∧ x < 256) (k : Nat) (hk : 5000000 ≤ k) : well_Check.f k l = some (if (T l).1 = 0 then (0, 0) else ((T l).2.1, (T l).1)) := Check_f l hl hb k hk
theorem mDepth (l : List Int) (hl : l.length ≤ 1000000) (hb : ∀ x ∈ l, 0 ≤ x ∧ x < 256) (k : Nat) (hk : 5000000 ≤ k) : well_Depth.f k l = some (if (T l).1 = 0 then ((T l).2.2, 0) else (0, (T l).1)) := Depth_f l hl hb k hk
theorem wakes_ok (k : Nat) (hk : 100 ≤ k) : sobriquetlaw02_wakes.f k = some true := at_rounds sobriquetlaw02_wakes.mono hk (by decide +kernel)

theorem Bytes_l0 (a b : List Int) (hl : a.length = b.length) (hm : a.length ≤ 4611686018427387904) : ∀ (d k i : Nat), i + d = a.length → d < k → sobriquetkeep_Bytes.l0 k a b (i : Int) = some (decide (a.drop i = b.drop i)) := by
  intro d
  induction d with
  | zero =>
    intro k i hi hk
    obtain ⟨k, rfl⟩ : ∃ m, k = m + 1 := ⟨k - 1, by omega⟩
    simp only [sobriquetkeep_Bytes.l0]
    rw [if_neg (by omega), List.drop_eq_nil_of_le (by omega), List.drop_eq_nil_of_le (by omega)]
    simp
  | succ d ih =>
    intro k i hi hk
    obtain ⟨k, rfl⟩ : ∃ m, k = m + 1 := ⟨k - 1, by omega⟩
    have ha : i < a.length := by omega
    have hb : i < b.length := by omega
    simp only [sobriquetkeep_Bytes.l0]
    rw [if_pos (by omega), if_pos (by omega), if_pos (by omega), rd_nat a i ha, rd_nat b i hb, w64_nat ha hm, ih k (i + 1) (by omega) (by omega), List.drop_eq_getElem_cons ha, List.drop_eq_getElem_cons hb]
    by_cases h : a[i] = b[i]
    · simp only [h, if_true, List.cons.injEq, true_and]
    · simp only [h, if_false, List.cons.injEq, false_and, decide_false]
theorem Bytes_f (a b : List Int) (k : Nat) (hm : a.length ≤ 4611686018427387904) (hk : a.length < k) : sobriquetkeep_Bytes.f k a b = some (decide (a = b)) := by
  unfold sobriquetkeep_Bytes.f
  by_cases hl : a.length = b.length
  · rw [if_pos (by omega)]
    have := Bytes_l0 a b hl hm a.length k 0 (by omega) hk
    simpa using this
  · rw [if_neg (by omega)]
    have : a ≠ b := fun h => hl (by rw [h])
    simp [this]

theorem Twin_f (l : List Int) (h : l.length < 140737488355328) : sobriquetkeep_Twin.f l = some l := by
  unfold sobriquetkeep_Twin.f
  rw [if_pos (by simpa using h)]; simp

theorem bClone_f (l : List Int) (h : l.length ≤ 140737488355328) : Go.Proofs.Ytogbpdmncnldhaa.Base.bytes_Clone.f l = some l := if_pos h
theorem bOne_f (k : Nat) (hk : 3000000 ≤ k) (cls tag : Int) (cons : Bool) (len : Int) (ok : okH cls tag len) (c r : List Int) (hc : (c.length : Int) = len) (hcl : c.length ≤ 100000) (hrl : r.length ≤ 100000) (hcb : ∀ x ∈ c, 0 ≤ x ∧ x < 256) (hrb : ∀ x ∈ r, 0 ≤ x ∧ x < 256) : Go.Proofs.Ytogbpdmncnldhaa.Base.tlv_One.f k ((encH cls tag cons len ++ c) ++ r) = some (cls, tag, cons, len, ((encH cls tag cons len).length : Int), c, r, 0) := by
  have hE := encH_len cls tag cons len ok
  have hb := encH_b cls tag cons len ok
  unfold Go.Proofs.Ytogbpdmncnldhaa.Base.tlv_One.f
  rw [List.append_assoc, read_f _ (by simp; omega) (fun x hx => by
    rcases List.mem_append.mp hx with h | h
    · exact hb x h
    · rcases List.mem_append.mp h with h | h
      · exact hcb x h
      · exact hrb x h) k hk, readH_enc cls tag cons len ok (c ++ r)]
  generalize encH cls tag cons len = E at *
  simp only [Option.bind_some, if_true]
  have e1 : wrap64 (((E ++ (c ++ r)).length : Int) - (E.length : Int)) = (c.length : Int) + r.length := by
    rw [w64 (by simp; omega) (by simp; omega)]; simp; omega
  have e2 : wrap64 ((E.length : Int) + len) = ((E.length + c.length : Nat) : Int) := by
    rw [w64 (by omega) (by omega)]; omega
  have t1 : ((E ++ (c ++ r)).take (E.length + c.length)).drop E.length = c := by
    rw [show E ++ (c ++ r) = (E ++ c) ++ r from (List.append_assoc ..).symm, show E.length + c.length = (E ++ c).length by simp, List.take_left, List.drop_left]
  have t2 : (E ++ (c ++ r)).drop (E.length + c.length) = r := by
    rw [show E ++ (c ++ r) = (E ++ c) ++ r from (List.append_assoc ..).symm, show E.length + c.length = (E ++ c).length by simp, List.drop_left]
  rw [e1, e2, if_neg (by omega), if_pos (by omega), if_pos (by omega), if_pos (by simp only [List.length_append]; omega), Int.toNat_natCast, Int.toNat_natCast, t1, t2, bClone_f c (by omega), bClone_f r (by omega)]
  simp only [Option.bind_some]
  rw [if_pos (by omega)]

theorem hd_enc (cls tag : Int) (cons : Bool) (len : Int) (h : okH cls tag len) (t : List Int) : hErr (encH cls tag cons len ++ t) = 0 ∧ hCls (encH cls tag cons len ++ t) = cls ∧ hTag (encH cls tag cons len ++ t) = tag ∧ hCons (encH cls tag cons len ++ t) = cons ∧ hLen (encH cls tag cons len ++ t) = len ∧ hSz (encH cls tag cons len ++ t) = ((encH cls tag cons len).length : Int) := by
  have e := readH_enc cls tag cons len h t
  unfold hErr hCls hTag hCons hLen hSz
  rw [e]
  exact ⟨rfl, rfl, rfl, rfl, rfl, rfl⟩
/-- The head check of a header that is followed by its content. -/
theorem hdc_enc (lv : Nat) (hlv : lv < 32) (cls tag : Int) (cons : Bool) (len : Int) (h : okH cls tag len) (t : List Int) (ht : len ≤ (t.length : Int)) :
    hdc lv (encH cls tag cons len ++ t) = if cls = 0 ∧ tag = 0 then 3 else if rightP cls tag cons = false then 7 else 0 := by
  obtain ⟨e1, e2, e3, e4, e5, e6⟩ := hd_enc cls tag cons len h t
  unfold hdc
  rw [if_neg (by omega), e1, if_neg (by decide), e2, e3, e4, e5, e6]
  split
  · rfl
  · split
    · rfl
    · rw [if_neg (by rw [List.length_append]; omega)]

theorem hd_ext (w t : List Int) (hb : ∀ x ∈ w, 0 ≤ x ∧ x < 256) (h : hErr w = 0) : hErr (w ++ t) = 0 ∧ hCls (w ++ t) = hCls w ∧ hTag (w ++ t) = hTag w ∧ hCons (w ++ t) = hCons w ∧ hLen (w ++ t) = hLen w ∧ hSz (w ++ t) = hSz w := by
  obtain ⟨ok, _, _, _, _, hs, u, hu⟩ := hd_bounds w hb h
  have e := hd_enc (hCls w) (hTag w) (hCons w) (hLen w) ok (u ++ t)
  rw [← List.append_assoc, ← hu, ← hs] at e
  exact e
theorem hdc_ext (lv : Nat) (w t : List Int) (hb : ∀ x ∈ w, 0 ≤ x ∧ x < 256) (h : hdc lv w = 0) : hdc lv (w ++ t) = 0 := by
  have h0 := hdc_ok h
  obtain ⟨e1, e2, e3, e4, e5, e6⟩ := hd_ext w t hb h0.2.1
  unfold hdc
  rw [if_neg (by omega), e1, if_neg (by decide), e2, e3, e4, e5, e6, if_neg h0.2.2.1, if_neg (by rw [h0.2.2.2.1]; decide), if_neg (by rw [List.length_append]; have := h0.2.2.2.2; omega)]
theorem VC_ext (lv : Nat) (w t : List Int) (hb : ∀ x ∈ w, 0 ≤ x ∧ x < 256) (h : hErr w = 0) (hl : hSz w + hLen w ≤ (w.length : Int)) : VC lv (w ++ t) = VC lv w := by
  obtain ⟨e1, e2, e3, e4, e5, e6⟩ := hd_ext w t hb h
  obtain ⟨_, b1, b2, b3, b4, _⟩ := hd_bounds w hb h
  unfold VC
  rw [e4, e5, e6, List.drop_append_of_le_length (by omega), List.take_append_of_le_length (by rw [List.length_drop]; omega)]
theorem T_ok {l : List Int} (hb : ∀ x ∈ l, 0 ≤ x ∧ x < 256) (h : (T l).1 = 0) : hdc 0 l = 0 ∧ (VC 0 l).1 = 0 ∧ hSz l + hLen l = (l.length : Int) ∧ T l = (0, (l.length : Int), max 1 (VC 0 l).2.2) := by
  unfold T at h
  by_cases h1 : hdc 0 l ≠ 0
  · rw [if_pos h1] at h; exact absurd h h1
  rw [if_neg h1] at h
  by_cases h2 : (VC 0 l).1 ≠ 0
  · rw [if_pos h2] at h; exact absurd h h2
  rw [if_neg h2] at h
  have h0 := hdc_ok (Decidable.of_not_not h1)
  have h5 := h0.2.2.2.2
  by_cases h3 : hSz l + hLen l < (l.length : Int)
  · rw [if_pos h3] at h; cases h
  refine ⟨Decidable.of_not_not h1, Decidable.of_not_not h2, by omega, ?_⟩
  unfold T
  rw [if_neg h1, if_neg h2, if_neg h3, show hSz l + hLen l = (l.length : Int) by omega]
theorem T_ext {l t : List Int} (hb : ∀ x ∈ l, 0 ≤ x ∧ x < 256) (h : (T l).1 = 0) (ht : 0 < t.length) : T (l ++ t) = (5, (l.length : Int), max 1 (VC 0 l).2.2) := by
  obtain ⟨h1, h2, h3, _⟩ := T_ok hb h
  have h0 := hdc_ok h1
  obtain ⟨e1, e2, e3, e4, e5, e6⟩ := hd_ext l t hb h0.2.1
  unfold T
  rw [if_neg (by rw [hdc_ext 0 l t hb h1]; decide), VC_ext 0 l t hb h0.2.1 (by omega), if_neg (by rw [h2]; decide), e5, e6, h3, if_pos (by rw [List.length_append]; omega)]

theorem hdc_lift (lv : Nat) (h : lv + 1 < 32) (w : List Int) : hdc (lv + 1) w = hdc lv w := by
  unfold hdc
  rw [if_neg (by omega), if_neg (show ¬ 32 ≤ lv by omega)]
theorem VV_zero (lv : Nat) (w : List Int) (hb : ∀ x ∈ w, 0 ≤ x ∧ x < 256) (hw : w ≠ []) (h : (VV lv w).1 = 0) :
    hdc lv w = 0 ∧ (VC lv w).1 = 0 ∧ (VV lv (w.drop (hSz w + hLen w).toNat)).1 = 0 ∧ VV lv w = (0, 0, max ((lv : Int) + 1) (max (VC lv w).2.2 (VV lv (w.drop (hSz w + hLen w).toNat)).2.2)) := by
  have e := VV_cons lv w hb hw
  rw [e] at h
  by_cases h1 : hdc lv w ≠ 0
  · rw [if_pos h1] at h; exact absurd h h1
  rw [if_neg h1] at h e
  by_cases h2 : (VC lv w).1 ≠ 0
  · rw [if_pos h2] at h; exact absurd h h2
  rw [if_neg h2] at h e
  by_cases h3 : (VV lv (w.drop (hSz w + hLen w).toNat)).1 ≠ 0
  · rw [if_pos h3] at h; exact absurd h h3
  rw [if_neg h3] at e
  exact ⟨Decidable.of_not_not h1, Decidable.of_not_not h2, Decidable.of_not_not h3, e⟩
theorem inner_len {w : List Int} (hb : ∀ x ∈ w, 0 ≤ x ∧ x < 256) {lv : Nat} (h : hdc lv w = 0) :
    2 ≤ hSz w ∧ 0 ≤ hLen w ∧ (((w.drop (hSz w).toNat).take (hLen w).toNat).length : Int) = hLen w ∧ ((w.drop (hSz w + hLen w).toNat).length : Int) = w.length - hSz w - hLen w ∧ hSz w + hLen w ≤ (w.length : Int) := by
  have h0 := hdc_ok h
  obtain ⟨_, b1, b2, b3, b4, _⟩ := hd_bounds w hb h0.2.1
  have h5 := h0.2.2.2.2
  refine ⟨b1, b3, ?_, ?_, by omega⟩
  · rw [List.length_take, List.length_drop]; omega
  · rw [List.length_drop]; omega
theorem depth_bound : ∀ (N : Nat) (lv : Nat) (w : List Int), w.length ≤ N → (∀ x ∈ w, 0 ≤ x ∧ x < 256) → (VV lv w).1 = 0 → 2 * (VV lv w).2.2 ≤ 2 * (lv : Int) + w.length := by
  intro N
  induction N with
  | zero =>
    intro lv w hN hb h
    rw [show w = [] from List.eq_nil_of_length_eq_zero (by omega), VV_nil]; simp only [List.length_nil]; omega
  | succ N ih =>
    intro lv w hN hb h
    by_cases hw : w = []
    · rw [hw, VV_nil]; simp only [List.length_nil]; omega
    obtain ⟨h1, h2, h3, e⟩ := VV_zero lv w hb hw h
    obtain ⟨a1, a2, a3, a4, a5⟩ := inner_len hb h1
    have r := ih lv (w.drop (hSz w + hLen w).toNat) (by omega) (bytes_drop hb _) h3
    have c : 2 * (VC lv w).2.2 ≤ 2 * (lv : Int) + w.length := by
      unfold VC at h2 ⊢
      by_cases hc : hCons w = true
      · rw [if_pos hc] at h2 ⊢
        have := ih (lv + 1) ((w.drop (hSz w).toNat).take (hLen w).toNat) (by omega) (bytes_take (bytes_drop hb _) _) h2
        omega
      · rw [if_neg hc]; simp only; omega
    rw [e]
    simp only
    omega
theorem lift_ok : ∀ (N : Nat) (lv : Nat) (w : List Int), w.length ≤ N → (∀ x ∈ w, 0 ≤ x ∧ x < 256) → (VV lv w).1 = 0 → (VV lv w).2.2 + 1 ≤ 32 → VV (lv + 1) w = (0, 0, if w = [] then 0 else (VV lv w).2.2 + 1) := by
  intro N
  induction N with
  | zero =>
    intro lv w hN hb h hd
    rw [show w = [] from List.eq_nil_of_length_eq_zero (by omega), VV_nil, if_pos rfl]
  | succ N ih =>
    intro lv w hN hb h hd
    by_cases hw : w = []
    · rw [hw, VV_nil, if_pos rfl]
    obtain ⟨h1, h2, h3, e⟩ := VV_zero lv w hb hw h
    obtain ⟨a1, a2, a3, a4, a5⟩ := inner_len hb h1
    rw [e] at hd
    simp only at hd
    have hlv : lv + 1 < 32 := by omega
    have r := ih lv (w.drop (hSz w + hLen w).toNat) (by omega) (bytes_drop hb _) h3 (by omega)
    have rn : w.drop (hSz w + hLen w).toNat = [] → (VV lv (w.drop (hSz w + hLen w).toNat)).2.2 = 0 := fun q => by rw [q, VV_nil]
    have c : (VC (lv + 1) w).1 = 0 ∧ ((VC lv w).2.2 = 0 ∧ (VC (lv + 1) w).2.2 = 0 ∨ (VC (lv + 1) w).2.2 = (VC lv w).2.2 + 1) := by
      unfold VC at h2 hd ⊢
      by_cases hc : hCons w = true
      · rw [if_pos hc] at h2 hd ⊢
        rw [if_pos hc]
        have := ih (lv + 1) ((w.drop (hSz w).toNat).take (hLen w).toNat) (by omega) (bytes_take (bytes_drop hb _) _) h2 (by omega)
        rw [this]
        refine ⟨rfl, ?_⟩
        by_cases hq : (w.drop (hSz w).toNat).take (hLen w).toNat = []
        · rw [if_pos hq, hq, VV_nil]; exact .inl ⟨rfl, rfl⟩
        · rw [if_neg hq]; exact .inr rfl
      · rw [if_neg hc, if_neg hc]; exact ⟨rfl, .inl ⟨rfl, rfl⟩⟩
    have e2 := VV_cons (lv + 1) w hb hw
    rw [hdc_lift lv hlv, if_neg (by rw [h1]; decide), if_neg (by rw [c.1]; decide), r, if_neg (fun q => q rfl)] at e2
    rw [e2, if_neg hw, e]
    simp only
    refine Prod.ext rfl (Prod.ext rfl ?_)
    show max (((lv + 1 : Nat) : Int) + 1) (max (VC (lv + 1) w).2.2 _) = max ((lv : Int) + 1) _ + 1
    by_cases hr : w.drop (hSz w + hLen w).toNat = []
    · rw [if_pos hr, rn hr]; omega
    · rw [if_neg hr]; omega
theorem lift_bad : ∀ (N : Nat) (lv : Nat) (w : List Int), w.length ≤ N → (∀ x ∈ w, 0 ≤ x ∧ x < 256) → (VV lv w).1 ≠ 0 → 2 * (lv + 1) + w.length ≤ 62 → (VV (lv + 1) w).1 = (VV lv w).1 ∧ (VV (lv + 1) w).2.1 = (VV lv w).2.1 := by
  intro N
  induction N with
  | zero =>
    intro lv w hN hb h _
    rw [show w = [] from List.eq_nil_of_length_eq_zero (by omega), VV_nil] at h; exact absurd rfl h
  | succ N ih =>
    intro lv w hN hb h hs
    by_cases hw : w = []
    · rw [hw, VV_nil] at h; exact absurd rfl h
    have hlv : lv + 1 < 32 := by omega
    have e := VV_cons lv w hb hw
    have e2 := VV_cons (lv + 1) w hb hw
    rw [hdc_lift lv hlv] at e2
    by_cases h1 : hdc lv w ≠ 0
    · rw [if_pos h1] at e e2; rw [e, e2]; exact ⟨rfl, rfl⟩
    rw [if_neg h1] at e e2
    obtain ⟨a1, a2, a3, a4, a5⟩ := inner_len hb (Decidable.of_not_not h1)
    have hcb := bytes_take (bytes_drop hb (hSz w).toNat) (hLen w).toNat
    by_cases h2 : (VC lv w).1 ≠ 0
    · rw [if_pos h2] at e
      have c : (VC (lv + 1) w).1 = (VC lv w).1 ∧ (VC (lv + 1) w).2.1 = (VC lv w).2.1 := by
        unfold VC at h2 ⊢
        by_cases hc : hCons w = true
        · rw [if_pos hc] at h2 ⊢
          rw [if_pos hc]
          exact ih (lv + 1) _ (by omega) hcb h2 (by omega)
        · rw [if_neg hc] at h2; exact absurd rfl h2
      rw [if_pos (by rw [c.1]; exact h2)] at e2
      rw [e, e2]
      exact ⟨c.1, by simp only; rw [c.2]⟩
    · rw [if_neg h2] at e
      have c : (VC (lv + 1) w).1 = 0 := by
        unfold VC at h2 ⊢
        by_cases hc : hCons w = true
        · rw [if_pos hc] at h2 ⊢
          have d := depth_bound _ (lv + 1) _ (Nat.le_refl _) hcb (Decidable.of_not_not h2)
          rw [lift_ok _ (lv + 1) _ (Nat.le_refl _) hcb (Decidable.of_not_not h2) (by omega)]
        · rw [if_neg hc]
      rw [if_neg (by rw [c]; decide)] at e2
      by_cases h3 : (VV lv (w.drop (hSz w + hLen w).toNat)).1 ≠ 0
      · rw [if_pos h3] at e
        have r := ih lv (w.drop (hSz w + hLen w).toNat) (by omega) (bytes_drop hb _) h3 (by omega)
        rw [if_pos (by rw [r.1]; exact h3)] at e2
        rw [e, e2]
        exact ⟨r.1, by simp only; rw [r.2]⟩
      · rw [if_neg h3] at e
        rw [e] at h
        exact absurd rfl h
theorem V_off : ∀ (N : Nat) (lv : Nat) (w : List Int), w.length ≤ N → (∀ x ∈ w, 0 ≤ x ∧ x < 256) → 0 ≤ (VV lv w).2.1 ∧ (VV lv w).2.1 ≤ w.length := by
  intro N
  induction N with
  | zero =>
    intro lv w hN hb
    rw [show w = [] from List.eq_nil_of_length_eq_zero (by omega), VV_nil]; simp only [List.length_nil]; omega
  | succ N ih =>
    intro lv w hN hb
    by_cases hw : w = []
    · rw [hw, VV_nil]; simp only [List.length_nil]; omega
    rw [VV_cons lv w hb hw]
    by_cases h1 : hdc lv w ≠ 0
    · rw [if_pos h1]; simp
    rw [if_neg h1]
    obtain ⟨a1, a2, a3, a4, a5⟩ := inner_len hb (Decidable.of_not_not h1)
    by_cases h2 : (VC lv w).1 ≠ 0
    · rw [if_pos h2]
      simp only
      unfold VC
      by_cases hc : hCons w = true
      · rw [if_pos hc]
        have := ih (lv + 1) ((w.drop (hSz w).toNat).take (hLen w).toNat) (by omega) (bytes_take (bytes_drop hb _) _)
        omega
      · rw [if_neg hc]; simp only; omega
    rw [if_neg h2]
    by_cases h3 : (VV lv (w.drop (hSz w + hLen w).toNat)).1 ≠ 0
    · rw [if_pos h3]
      have := ih lv (w.drop (hSz w + hLen w).toNat) (by omega) (bytes_drop hb _)
      simp only
      omega
    · rw [if_neg h3]; simp
theorem T_off (b : List Int) (hb : ∀ x ∈ b, 0 ≤ x ∧ x < 256) (hl : b.length ≤ 1000) : 0 ≤ (T b).2.1 ∧ (T b).2.1 ≤ 1000 := by
  unfold T
  by_cases h1 : hdc 0 b ≠ 0
  · rw [if_pos h1]; simp
  rw [if_neg h1]
  obtain ⟨a1, a2, a3, a4, a5⟩ := inner_len hb (Decidable.of_not_not h1)
  by_cases h2 : (VC 0 b).1 ≠ 0
  · rw [if_pos h2]
    simp only
    unfold VC
    by_cases hc : hCons b = true
    · rw [if_pos hc]
      have := V_off _ (0 + 1) ((b.drop (hSz b).toNat).take (hLen b).toNat) (Nat.le_refl _) (bytes_take (bytes_drop hb _) _)
      omega
    · rw [if_neg hc]; simp only; omega
  · rw [if_neg h2]; simp only; omega

theorem rd_at (xs : List (List Int)) (i : Nat) (h : i < xs.length) : rd_L1 xs (i : Int) = xs[i] := by
  unfold rd_L1
  rw [Int.toNat_natCast, List.getD_eq_getElem?_getD, List.getElem?_eq_getElem h]; rfl
theorem Rows_l0 (l : List (List Int)) (hl : l.length ≤ 1000) (hx : ∀ x ∈ l, x.length ≤ 1000) : ∀ (d k i : Nat), i + d = l.length → 2000 + d < k → sobriquetkeep_Rows.l0 k l l (i : Int) = some true := by
  intro d
  induction d with
  | zero =>
    intro k i hi hk
    obtain ⟨k, rfl⟩ : ∃ m, k = m + 1 := ⟨k - 1, by omega⟩
    rw [sobriquetkeep_Rows.l0, if_neg (by omega)]
  | succ d ih =>
    intro k i hi hk
    obtain ⟨k, rfl⟩ : ∃ m, k = m + 1 := ⟨k - 1, by omega⟩
    have h : i < l.length := by omega
    have hxi := hx l[i] (List.getElem_mem h)
    rw [sobriquetkeep_Rows.l0, if_pos (by omega), if_pos (by omega), if_pos (by omega), rd_at l i h, Bytes_f _ _ k (by omega) (by omega), dec_t _ rfl]
    simp only [Option.bind_some, if_true]
    rw [w64_nat h (by omega)]
    exact ih k (i + 1) (by omega) (by omega)
theorem Rows_f (l : List (List Int)) (hl : l.length ≤ 1000) (hx : ∀ x ∈ l, x.length ≤ 1000) (k : Nat) (hk : 4000 ≤ k) : sobriquetkeep_Rows.f k l l = some true := by
  unfold sobriquetkeep_Rows.f
  rw [if_pos rfl]
  exact Rows_l0 l hl hx l.length k 0 (by omega) (by omega)

theorem drop_cons_ (l : List Int) (p : Nat) (h : p < l.length) : l.drop p = l[p] :: l.drop (p + 1) := List.drop_eq_getElem_cons h
theorem rt_eq (l : List Int) (hl : l.length ≤ 1000000) (hb : ∀ x ∈ l, 0 ≤ x ∧ x < 256) : ∀ (d k p : Nat) (n : Int), l.length ≤ p + d → 1 ≤ p → d < k → 0 ≤ n → n ≤ 268435455 →
    ∃ q, ref_tag k l p n = some ((tagP (l.drop p) n (decide (p = 1)) p).1, (tagP (l.drop p) n (decide (p = 1)) p).2.1, q) ∧ ((tagP (l.drop p) n (decide (p = 1)) p).2.1 = 0 → q = (tagP (l.drop p) n (decide (p = 1)) p).2.2) := by
  intro d
  induction d with
  | zero =>
    intro k p n hp h1 hk h0 hm
    obtain ⟨k, rfl⟩ : ∃ m, k = m + 1 := ⟨k - 1, by omega⟩
    rw [ref_tag, if_pos (by omega), List.drop_eq_nil_of_le (by omega), tagP]
    exact ⟨p, rfl, fun _ => rfl⟩
  | succ d ih =>
    intro k p n hp h1 hk h0 hm
    obtain ⟨k, rfl⟩ : ∃ m, k = m + 1 := ⟨k - 1, by omega⟩
    by_cases h : p < l.length
    · obtain ⟨b0, b1⟩ := hb l[p] (List.getElem_mem h)
      rw [ref_tag, if_neg (by omega), rd_nat l p h, if_pos ⟨by omega, by omega, b0, b1, h0, hm⟩, drop_cons_ l p h, tagP]
      by_cases c1 : p = 1 ∧ l[p] = 128
      · rw [if_pos (show (p : Int) = 1 ∧ l[p] = 128 from ⟨by omega, c1.2⟩), if_pos (.inl ⟨dec_t _ c1.1, c1.2⟩)]
        exact ⟨_, rfl, fun q => by cases q⟩
      have c1' : ¬ ((p : Int) = 1 ∧ l[p] = 128) := fun q => c1 ⟨by omega, q.2⟩
      rw [if_neg c1']
      by_cases c2 : n * 128 + l[p] % 128 > 268435455
      · rw [if_pos c2, if_pos (.inr c2)]
        exact ⟨_, rfl, fun q => by cases q⟩
      rw [if_neg c2, if_neg (show ¬ ((decide (p = 1) = true ∧ l[p] = 128) ∨ n * 128 + l[p] % 128 > 268435455) from fun q => q.elim (fun q => c1 ⟨of_decide_eq_true q.1, q.2⟩) c2)]
      by_cases c3 : l[p] ≥ 128
      · rw [if_pos c3, if_pos c3]
        have := ih k (p + 1) (n * 128 + l[p] % 128) (by omega) (by omega) (by omega) (by omega) (by omega)
        rw [dec_f _ (show ¬ (p + 1 = 1) by omega)] at this
        exact this
      rw [if_neg c3, if_neg c3]
      by_cases c4 : n * 128 + l[p] % 128 < 31
      · rw [if_pos c4, if_pos c4]
        exact ⟨_, rfl, fun q => by cases q⟩
      · rw [if_neg c4, if_neg c4]
        exact ⟨_, rfl, fun _ => rfl⟩
    · rw [ref_tag, if_pos (by omega), List.drop_eq_nil_of_le (by omega), tagP]
      exact ⟨p, rfl, fun _ => rfl⟩
def B256 : Nat → Int
  | 0 => 1
  | 1 => 256
  | 2 => 65536
  | 3 => 16777216
  | _ => 4294967296
theorem rl_eq (l : List Int) (hl : l.length ≤ 1000000) (hb : ∀ x ∈ l, 0 ≤ x ∧ x < 256) (M : Nat) (hM : M ≤ 4) : ∀ (d k i p : Nat) (n : Int), i + d = M → d < k → 0 ≤ n → n < B256 i →
    ∃ q, ref_lenL k l M i p n = some ((lenL d (l.drop p) n (decide (i = 0)) p).1, (lenL d (l.drop p) n (decide (i = 0)) p).2.1, q) ∧ ((lenL d (l.drop p) n (decide (i = 0)) p).2.1 = 0 → q = (lenL d (l.drop p) n (decide (i = 0)) p).2.2) := by
  intro d
  induction d with
  | zero =>
    intro k i p n hi hk h0 hn
    obtain ⟨k, rfl⟩ : ∃ m, k = m + 1 := ⟨k - 1, by omega⟩
    rw [ref_lenL, if_neg (by omega), lenL]
    by_cases c1 : n > 2147483647
    · rw [if_pos c1, if_pos c1]; exact ⟨_, rfl, fun q => by cases q⟩
    by_cases c2 : n < 128
    · rw [if_neg c1, if_pos c2, if_neg c1, if_pos c2]; exact ⟨_, rfl, fun q => by cases q⟩
    · rw [if_neg c1, if_neg c2, if_neg c1, if_neg c2]; exact ⟨_, rfl, fun _ => rfl⟩
  | succ d ih =>
    intro k i p n hi hk h0 hn
    obtain ⟨k, rfl⟩ : ∃ m, k = m + 1 := ⟨k - 1, by omega⟩
    by_cases h : p < l.length
    · obtain ⟨b0, b1⟩ := hb l[p] (List.getElem_mem h)
      have hB : n ≤ 16777215 ∧ (∀ x : Int, 0 ≤ x → x < 256 → n * 256 + x < B256 (i + 1)) := by
        have : i = 0 ∨ i = 1 ∨ i = 2 ∨ i = 3 := by omega
        rcases this with rfl | rfl | rfl | rfl <;> simp only [B256] at hn ⊢ <;> exact ⟨by omega, fun x _ _ => by omega⟩
      rw [ref_lenL, if_pos (by omega), if_neg (by omega), rd_nat l p h, if_pos ⟨by omega, by omega, b0, b1, h0, by omega, by omega, by omega⟩, drop_cons_ l p h, lenL]
      by_cases c1 : i = 0 ∧ l[p] = 0
      · rw [if_pos (show (i : Int) = 0 ∧ l[p] = 0 from ⟨by omega, c1.2⟩), if_pos (show decide (i = 0) = true ∧ l[p] = 0 from ⟨dec_t _ c1.1, c1.2⟩)]
        exact ⟨_, rfl, fun q => by cases q⟩
      rw [if_neg (show ¬ ((i : Int) = 0 ∧ l[p] = 0) from fun q => c1 ⟨by omega, q.2⟩), if_neg (show ¬ (decide (i = 0) = true ∧ l[p] = 0) from fun q => c1 ⟨of_decide_eq_true q.1, q.2⟩)]
      have := ih k (i + 1) (p + 1) (n * 256 + l[p]) (by omega) (by omega) (by omega) (hB.2 _ b0 b1)
      rw [dec_f _ (show ¬ (i + 1 = 0) by omega)] at this
      exact this
    · rw [ref_lenL, if_pos (by omega), if_pos (by omega), List.drop_eq_nil_of_le (by omega), lenL]
      exact ⟨p, rfl, fun q => by cases q⟩
theorem rn_eq (l : List Int) (hl : l.length ≤ 1000000) (hb : ∀ x ∈ l, 0 ≤ x ∧ x < 256) (k p : Nat) (hk : 10 ≤ k) :
    ∃ q, ref_len k l p = some ((lenP (l.drop p) p).1, (lenP (l.drop p) p).2.1, q) ∧ ((lenP (l.drop p) p).2.1 = 0 → q = (lenP (l.drop p) p).2.2) := by
  unfold ref_len
  by_cases h : p < l.length
  · obtain ⟨b0, b1⟩ := hb l[p] (List.getElem_mem h)
    rw [if_neg (by omega), rd_nat l p h, if_pos ⟨by omega, by omega, b0, b1⟩, drop_cons_ l p h, lenP]
    by_cases c1 : l[p] < 128
    · rw [if_pos c1, if_pos c1]; exact ⟨_, rfl, fun _ => rfl⟩
    by_cases c2 : l[p] = 128
    · rw [if_neg c1, if_pos c2, if_neg c1, if_pos c2]; exact ⟨_, rfl, fun q => by cases q⟩
    by_cases c3 : l[p] - 128 > 4
    · rw [if_neg c1, if_neg c2, if_pos c3, if_neg c1, if_neg c2, if_pos c3]; exact ⟨_, rfl, fun q => by cases q⟩
    rw [if_neg c1, if_neg c2, if_neg c3, if_neg c1, if_neg c2, if_neg c3]
    have := rl_eq l hl hb (l[p] - 128).toNat (by omega) (l[p] - 128).toNat k 0 (p + 1) 0 (by omega) (by omega) (Int.le_refl _) (by decide)
    rw [Int.toNat_of_nonneg (by omega)] at this
    exact this
  · rw [if_pos (by omega), List.drop_eq_nil_of_le (by omega), lenP]
    exact ⟨p, rfl, fun q => by cases q⟩
theorem ref_f (l : List Int) (hl : l.length ≤ 1000000) (hb : ∀ x ∈ l, 0 ≤ x ∧ x < 256) (k : Nat) (hk : 3000000 ≤ k) : sobriquetref01_Read.f k l = some (readH l) := by
  unfold sobriquetref01_Read.f
  match l, hl, hb with
  | [], _, _ => rfl
  | c :: t, hl, hb =>
    obtain ⟨b0, b1⟩ := hb c (by simp)
    have r0 : rd (c :: t) 0 = c := rfl
    rw [if_neg (by simp), r0, if_pos ⟨b0, b1, by omega⟩, readH]
    have hT : ∃ q, (if c % 32 = 31 then ref_tag k (c :: t) 1 0 else some (c % 32, 0, 1)) = some ((tagQ c t).1, (tagQ c t).2.1, q) ∧ ((tagQ c t).2.1 = 0 → q = (tagQ c t).2.2) := by
      unfold tagQ
      by_cases h : c % 32 = 31
      · rw [if_pos h, if_pos h]
        exact rt_eq (c :: t) hl hb (c :: t).length k 1 0 (by omega) (Nat.le_refl _) (by omega) (Int.le_refl _) (by decide)
      · rw [if_neg h, if_neg h]; exact ⟨1, rfl, fun _ => rfl⟩
    obtain ⟨q, e, hq⟩ := hT
    rw [e]
    simp only [Option.bind_some]
    by_cases h : (tagQ c t).2.1 = 0
    · have hp : 1 ≤ (tagQ c t).2.2 := by
        unfold tagQ
        split
        · exact (tagP_pos t 0 true 1).1
        · simp
      obtain ⟨q2, e2, hq2⟩ := rn_eq (c :: t) hl hb k (tagQ c t).2.2.toNat (by omega)
      rw [Int.toNat_of_nonneg (by omega)] at e2 hq2
      rw [if_pos h, if_pos h, hq h, e2]
      simp only [Option.bind_some]
      by_cases h2 : (lenP ((c :: t).drop (tagQ c t).2.2.toNat) (tagQ c t).2.2).2.1 = 0
      · rw [if_pos h2, if_pos h2, hq2 h2]
        have e3 : (c / 32 % 2 == 1) = decide (c / 32 % 2 = 1) := by
          by_cases z : c / 32 % 2 = 1
          · rw [z]; rfl
          · rw [dec_f _ z]; exact beq_eq_false_iff_ne.mpr z
        rw [e3]
      · rw [if_neg h2, if_neg h2]
    · rw [if_neg h, if_neg h]

theorem rright_f (cls tag : Int) (cons : Bool) (len size : Int) : sobriquetref01_right.f cls tag cons len size = some (rightP cls tag cons) := by
  unfold sobriquetref01_right.f rightP
  by_cases h0 : cls = 0
  · rw [if_pos h0]
    by_cases h1 : tag ≥ 31
    · rw [if_pos h1, if_pos (show cls ≠ 0 ∨ 31 ≤ tag from .inr h1)]
    rw [if_neg h1, if_neg (show ¬ (cls ≠ 0 ∨ 31 ≤ tag) by omega)]
    by_cases a : tag = 8
    · subst a; cases cons <;> rfl
    by_cases b : tag = 11
    · subst b; cases cons <;> rfl
    by_cases c : tag = 16
    · subst c; cases cons <;> rfl
    rw [if_neg a, if_neg b, if_neg c]
    by_cases d : tag = 17
    · subst d; cases cons <;> rfl
    · rw [show (tag == 17) = false from beq_eq_false_iff_ne.mpr d, dec_f _ (show ¬ (tag = 8 ∨ tag = 11 ∨ tag = 16 ∨ tag = 17) by omega)]
  · rw [if_neg h0, if_pos (show cls ≠ 0 ∨ 31 ≤ tag from .inl h0)]
/-- The reference's step behind the reading of a head. -/
theorem rj3 (l : List Int) (hl : l.length ≤ 1000000) (hb : ∀ x ∈ l, 0 ≤ x ∧ x < 256) (k : Nat) (hk : 3000000 ≤ k) (E : List Int) (p t : Nat) (d : Int) (hp : p ≤ t) (htl : t ≤ l.length) (w : List Int) (hw : w = (l.take t).drop p) :
    sobriquetref01_Well.j3 (k + 1) l E p d t = if hdc E.length w ≠ 0 then some ((p : Int), hdc E.length w, 0) else
      sobriquetref01_Well.j4 k l E p d t false (hCls w) (hTag w) (hCons w) (hLen w) (hSz w) := by
  have hwb : ∀ x ∈ w, 0 ≤ x ∧ x < 256 := by rw [hw]; exact bytes_drop (bytes_take hb _) _
  have hwl : w.length = t - p := by rw [hw]; exact cut_length l p t htl
  rw [sobriquetref01_Well.j3]
  by_cases h1 : 32 ≤ E.length
  · have e : hdc E.length w = 6 := by unfold hdc; rw [if_pos h1]
    rw [if_pos (by omega), e, if_pos (show (6 : Int) ≠ 0 by decide)]
  rw [if_neg (by omega), if_pos (by omega), if_pos (by omega), if_pos (by omega)]
  simp only [Int.toNat_natCast]
  rw [← hw, ref_f w (by omega) hwb k hk]
  simp only [Option.bind_some]
  have eE : (readH w).2.2.2.2.2 = hErr w := rfl
  have eC : (readH w).1 = hCls w := rfl
  have eT : (readH w).2.1 = hTag w := rfl
  have eB : (readH w).2.2.1 = hCons w := rfl
  have eL : (readH w).2.2.2.1 = hLen w := rfl
  have eS : (readH w).2.2.2.2.1 = hSz w := rfl
  rw [eE, eC, eT, eB, eL, eS]
  obtain ⟨k, rfl⟩ : ∃ m, k = m + 1 := ⟨k - 1, by omega⟩
  unfold hdc
  rw [if_neg h1]
  by_cases h2 : hErr w = 0
  · rw [if_pos h2, if_neg (show ¬ (hErr w ≠ 0) from fun q => q h2)]
    obtain ⟨_, b1, b2, b3, b4, _⟩ := hd_bounds w hwb h2
    have J : ∀ b, b = false → sobriquetref01_Well.j4 (k + 1) l E p d t b (hCls w) (hTag w) (hCons w) (hLen w) (hSz w) = if (if rightP (hCls w) (hTag w) (hCons w) = false then (7 : Int) else if (w.length : Int) - hSz w < hLen w then 2 else 0) ≠ 0 then some ((p : Int), (if rightP (hCls w) (hTag w) (hCons w) = false then (7 : Int) else if (w.length : Int) - hSz w < hLen w then 2 else 0), 0) else sobriquetref01_Well.j4 (k + 1) l E p d t false (hCls w) (hTag w) (hCons w) (hLen w) (hSz w) := by
      intro b hb0
      subst hb0
      by_cases h4 : rightP (hCls w) (hTag w) (hCons w) = true
      · rw [if_neg (show ¬ (rightP (hCls w) (hTag w) (hCons w) = false) by rw [h4]; decide)]
        by_cases h5 : (w.length : Int) - hSz w < hLen w
        · rw [if_pos h5, if_pos (show (2 : Int) ≠ 0 by decide), sobriquetref01_Well.j4, if_neg (by decide), rright_f]
          simp only [Option.bind_some]
          rw [if_pos h4, w64 (x := (t : Int) - p) (by omega) (by omega), w64 (by omega) (by omega), if_pos (by omega)]
        · rw [if_neg h5, if_neg (fun q => q rfl)]
      · have h4' : rightP (hCls w) (hTag w) (hCons w) = false := by simpa using h4
        rw [if_pos h4', if_pos (show (7 : Int) ≠ 0 by decide), sobriquetref01_Well.j4, if_neg (by decide), rright_f]
        simp only [Option.bind_some]
        rw [if_neg h4]
    by_cases h3 : hCls w = 0 ∧ hTag w = 0
    · rw [if_pos h3.1, if_pos h3, if_pos (show (3 : Int) ≠ 0 by decide), sobriquetref01_Well.j4, if_pos (by rw [h3.2]; rfl)]
    · rw [if_neg h3]
      by_cases h6 : hCls w = 0
      · rw [if_pos h6]; exact J _ (beq_eq_false_iff_ne.mpr fun q => h3 ⟨h6, q⟩)
      · rw [if_neg h6]; exact J _ rfl
  · rw [if_neg h2, if_pos h2, if_pos h2]
/-- The reference's step behind a head that is right. -/
theorem rj4 (l : List Int) (hl : l.length ≤ 1000000) (k : Nat) (E : List Int) (hE : E.length < 32) (p t : Nat) (d : Int) (w : List Int) (hwl : w.length = t - p) (hp : p ≤ t) (htl : t ≤ l.length) (sz ln : Nat) (hsz : hSz w = sz) (hln : hLen w = ln) (h5 : (ln : Int) ≤ (w.length : Int) - sz) (hr : rightP (hCls w) (hTag w) (hCons w) = true) :
    sobriquetref01_Well.j4 (k + 1) l E p d t false (hCls w) (hTag w) (hCons w) (hLen w) (hSz w) =
      if hCons w = true then sobriquetref01_Well.l0 k l (E ++ [((p + sz + ln : Nat) : Int)]) ((p + sz : Nat) : Int) (max d ((E.length : Int) + 1))
      else if E.length = 0 then (if ((p + sz + ln : Nat) : Int) < (l.length : Int) then some (((p + sz + ln : Nat) : Int), 5, 0) else some (0, 0, max d ((E.length : Int) + 1)))
      else sobriquetref01_Well.l0 k l E ((p + sz + ln : Nat) : Int) (max d ((E.length : Int) + 1)) := by
  have em : mx d ((E.length : Int) + 1) = max d ((E.length : Int) + 1) := by unfold mx; split <;> omega
  rw [sobriquetref01_Well.j4, if_neg (by decide), rright_f]
  simp only [Option.bind_some]
  rw [if_pos hr, hsz, hln, w64 (x := (t : Int) - p) (by omega) (by omega), w64 (x := (t : Int) - p - sz) (by omega) (by omega), if_neg (by omega), w64 (x := (p : Int) + sz) (by omega) (by omega), w64 (x := (p : Int) + sz + ln) (by omega) (by omega), w64 (x := (E.length : Int) + 1) (by omega) (by omega), em, show (p : Int) + sz = ((p + sz : Nat) : Int) by omega, show ((p + sz : Nat) : Int) + ln = ((p + sz + ln : Nat) : Int) by omega]
  by_cases hc : hCons w = true
  · rw [if_pos hc, if_pos hc, if_pos (by omega)]
  · rw [if_neg hc, if_neg hc]
    by_cases h0 : E.length = 0
    · rw [if_pos (by omega), if_pos h0]
    · rw [if_neg (by omega), if_neg h0]

theorem rd_top (S : List Int) (t : Int) : rd (S.reverse ++ [t]) (S.length : Int) = t := by
  rw [rd_nat _ S.length (by simp)]
  simp
theorem r_top (l : List Int) (k : Nat) (S : List Int) (hS : S.length ≤ 1000000) (p t d : Int) (hne : p ≠ t) : sobriquetref01_Well.l1 (k + 2) l (S.reverse ++ [t]) p d = sobriquetref01_Well.j3 k l (S.reverse ++ [t]) p d t := by
  have hl : ((S.reverse ++ [t]).length : Int) = (S.length : Int) + 1 := by simp
  rw [sobriquetref01_Well.l1, hl, if_pos (by omega), w64 (x := (S.length : Int) + 1 - 1) (by omega) (by omega), show (S.length : Int) + 1 - 1 = (S.length : Int) by omega, if_pos (by omega), if_pos (by omega), rd_top,
    show (t == p) = false from beq_eq_false_iff_ne.mpr (fun q => hne q.symm), sobriquetref01_Well.j2, if_neg (by decide), hl, if_pos (by omega), w64 (x := (S.length : Int) + 1 - 1) (by omega) (by omega), show (S.length : Int) + 1 - 1 = (S.length : Int) by omega, if_pos (by omega), if_pos (by omega), rd_top]
theorem r_pop (l : List Int) (k : Nat) (S : List Int) (hS : S.length ≤ 1000000) (t d : Int) : sobriquetref01_Well.l1 (k + 2) l (S.reverse ++ [t]) t d = if S.length = 0 then (if t < (l.length : Int) then some (t, 5, 0) else some (0, 0, d)) else sobriquetref01_Well.l1 k l S.reverse t d := by
  have hl : ((S.reverse ++ [t]).length : Int) = (S.length : Int) + 1 := by simp
  have ht : (S.reverse ++ [t]).take S.length = S.reverse := List.take_left' (by simp)
  rw [sobriquetref01_Well.l1, hl, if_pos (by omega), w64 (x := (S.length : Int) + 1 - 1) (by omega) (by omega), show (S.length : Int) + 1 - 1 = (S.length : Int) by omega, if_pos (by omega), if_pos (by omega), rd_top,
    show (t == t) = true from by simp, sobriquetref01_Well.j2, if_pos rfl, hl, w64 (x := (S.length : Int) + 1 - 1) (by omega) (by omega), show (S.length : Int) + 1 - 1 = (S.length : Int) by omega, if_pos (by omega), if_pos (by omega), Int.toNat_natCast, ht]
  simp only [Option.bind_some, List.length_reverse]
  by_cases h : S.length = 0
  · rw [if_pos (by omega), if_pos h]
  · rw [if_neg (by omega), if_neg h]
theorem run_R (l : List Int) (hl : l.length ≤ 1000000) (hb : ∀ x ∈ l, 0 ≤ x ∧ x < 256) : ∀ (N p t : Nat) (S : List Int) (d : Int), t - p ≤ N → p < t → t ≤ l.length → S.length + 1 ≤ 40 →
    ∃ c, c ≤ 7 * (t - p) ∧ ∀ k, 3000000 ≤ k →
      ((VV (S.length + 1) ((l.take t).drop p)).1 ≠ 0 → sobriquetref01_Well.l1 (k + c) l (S.reverse ++ [(t : Int)]) p d = some (p + (VV (S.length + 1) ((l.take t).drop p)).2.1, (VV (S.length + 1) ((l.take t).drop p)).1, 0)) ∧
      ((VV (S.length + 1) ((l.take t).drop p)).1 = 0 → sobriquetref01_Well.l1 (k + c) l (S.reverse ++ [(t : Int)]) p d = sobriquetref01_Well.l1 k l (S.reverse ++ [(t : Int)]) t (max d (VV (S.length + 1) ((l.take t).drop p)).2.2)) := by
  intro N
  induction N with
  | zero => intro p t S d h1 h2; omega
  | succ N ih =>
    intro p t S d hN hpt htl hS
    obtain ⟨w, hw⟩ : ∃ w, w = (l.take t).drop p := ⟨_, rfl⟩
    have hwb : ∀ x ∈ w, 0 ≤ x ∧ x < 256 := by rw [hw]; exact bytes_drop (bytes_take hb _) _
    have hwl : w.length = t - p := by rw [hw]; exact cut_length l p t htl
    have hwn : w ≠ [] := by intro q; rw [q] at hwl; simp at hwl; omega
    rw [← hw]
    have hEl : (S.reverse ++ [(t : Int)]).length = S.length + 1 := by simp
    have hE := VV_cons (S.length + 1) w hwb hwn
    have top : ∀ k, 3000000 ≤ k → sobriquetref01_Well.l1 (k + 5) l (S.reverse ++ [(t : Int)]) p d = if hdc (S.length + 1) w ≠ 0 then some ((p : Int), hdc (S.length + 1) w, 0) else
        sobriquetref01_Well.j4 (k + 2) l (S.reverse ++ [(t : Int)]) p d t false (hCls w) (hTag w) (hCons w) (hLen w) (hSz w) := by
      intro k hk
      rw [show k + 5 = (k + 3) + 2 by omega, r_top l (k + 3) S (by omega) p t d (by omega), show k + 3 = (k + 2) + 1 by omega, rj3 l hl hb (k + 2) (by omega) _ p t d (by omega) htl w hw, hEl]
    by_cases hh : hdc (S.length + 1) w ≠ 0
    · rw [if_pos hh] at hE
      refine ⟨5, by omega, fun k hk => ⟨fun _ => ?_, fun h0 => absurd (by rw [hE] at h0; exact h0) hh⟩⟩
      rw [top k hk, if_pos hh, hE]
      simp only
      rw [Int.add_zero]
    rw [if_neg hh] at hE
    have h0 := hdc_ok (Decidable.of_not_not hh)
    obtain ⟨_, b1, b2, b3, b4, _⟩ := hd_bounds w hwb h0.2.1
    obtain ⟨sz, hsz⟩ := Int.eq_ofNat_of_zero_le (show 0 ≤ hSz w by omega)
    obtain ⟨ln, hln⟩ := Int.eq_ofNat_of_zero_le b3
    have h5 := h0.2.2.2.2
    rw [hsz, hln] at h5
    rw [hsz] at b1
    have step : ∀ k, 3000000 ≤ k → sobriquetref01_Well.l1 (k + 5) l (S.reverse ++ [(t : Int)]) p d =
        if hCons w = true then sobriquetref01_Well.l1 k l ((((t : Int) :: S).reverse) ++ [((p + sz + ln : Nat) : Int)]) ((p + sz : Nat) : Int) (max d (((S.length + 1 : Nat) : Int) + 1))
        else sobriquetref01_Well.l1 k l (S.reverse ++ [(t : Int)]) ((p + sz + ln : Nat) : Int) (max d (((S.length + 1 : Nat) : Int) + 1)) := by
      intro k hk
      rw [top k hk, if_neg hh, show k + 2 = (k + 1) + 1 by omega, rj4 l hl (k + 1) _ (by rw [hEl]; omega) p t d w hwl (by omega) htl sz ln hsz hln h5 h0.2.2.2.1, hEl]
      by_cases hc : hCons w = true
      · rw [if_pos hc, if_pos hc, sobriquetref01_Well.l0, List.reverse_cons]
      · rw [if_neg hc, if_neg hc, if_neg (by omega), sobriquetref01_Well.l0]
    have hrest : w.drop (hSz w + hLen w).toNat = (l.take t).drop (p + sz + ln) := by
      rw [hw, Nat.add_assoc, cut_rest]; congr 1; rw [← hw]; omega
    have tail : ∀ (dc d1 : Int), d1 = max (max d (((S.length + 1 : Nat) : Int) + 1)) dc → 0 ≤ dc → ∃ c, c ≤ 7 * (t - (p + sz + ln)) ∧ ∀ k, 3000000 ≤ k →
        ((VV (S.length + 1) (w.drop (hSz w + hLen w).toNat)).1 ≠ 0 → sobriquetref01_Well.l1 (k + c) l (S.reverse ++ [(t : Int)]) ((p + sz + ln : Nat) : Int) d1 = some (((p + sz + ln : Nat) : Int) + (VV (S.length + 1) (w.drop (hSz w + hLen w).toNat)).2.1, (VV (S.length + 1) (w.drop (hSz w + hLen w).toNat)).1, 0)) ∧
        ((VV (S.length + 1) (w.drop (hSz w + hLen w).toNat)).1 = 0 → sobriquetref01_Well.l1 (k + c) l (S.reverse ++ [(t : Int)]) ((p + sz + ln : Nat) : Int) d1 = sobriquetref01_Well.l1 k l (S.reverse ++ [(t : Int)]) t (max d1 (VV (S.length + 1) (w.drop (hSz w + hLen w).toNat)).2.2)) := by
      intro dc d1 hd1 hdc0
      rw [hrest]
      by_cases he : p + sz + ln = t
      · refine ⟨0, Nat.zero_le _, fun k hk => ⟨fun q => ?_, fun _ => ?_⟩⟩
        · rw [he, List.drop_eq_nil_of_le (by rw [List.length_take]; omega), VV_nil] at q; exact absurd rfl q
        · rw [he, List.drop_eq_nil_of_le (by rw [List.length_take]; omega), VV_nil, Nat.add_zero]
          congr 1
          show d1 = max d1 0
          omega
      · exact ih (p + sz + ln) t S d1 (by omega) (by omega) htl hS
    have e1 : max d (((S.length + 1 : Nat) : Int) + 1) = max (max d (((S.length + 1 : Nat) : Int) + 1)) 0 := by omega
    by_cases hcons : hCons w = true
    · by_cases hl0 : ln = 0
      · have hVC : VC (S.length + 1) w = (0, 0, 0) := by
          unfold VC; rw [if_pos hcons, hln, hl0]; simp [VV_nil]
        rw [hVC, if_neg (fun q => q rfl)] at hE
        obtain ⟨c, hc, hk⟩ := tail 0 _ rfl (Int.le_refl _)
        refine ⟨c + 7, by omega, fun k hk3 => ?_⟩
        have s2 := step (k + c + 2) (by omega)
        rw [if_pos hcons, show ((p + sz : Nat) : Int) = ((p + sz + ln : Nat) : Int) by omega, r_pop l (k + c) ((t : Int) :: S) (by simp; omega), if_neg (by simp), List.reverse_cons] at s2
        obtain ⟨k1, k2⟩ := hk k hk3
        rw [← e1] at k1 k2
        rw [show k + (c + 7) = k + c + 2 + 5 by omega, s2, hE]
        by_cases hr : (VV (S.length + 1) (w.drop (hSz w + hLen w).toNat)).1 ≠ 0
        · rw [if_pos hr]
          refine ⟨fun _ => ?_, fun q => absurd q hr⟩
          rw [k1 hr]; refine congrArg some (Prod.ext ?_ rfl); simp only; rw [hsz, hln]; omega
        · rw [if_neg hr]
          refine ⟨fun q => absurd rfl q, fun _ => ?_⟩
          rw [k2 (Decidable.of_not_not hr)]
          congr 1
          simp only; omega
      · obtain ⟨ci, hci, hki⟩ := ih (p + sz) (p + sz + ln) ((t : Int) :: S) (max d (((S.length + 1 : Nat) : Int) + 1)) (by omega) (by omega) (by omega) (by have := h0.1; simp only [List.length_cons]; omega)
        have hin : (l.take (p + sz + ln)).drop (p + sz) = (w.drop (hSz w).toNat).take (hLen w).toNat := by
          rw [cut_inner l p t sz ln (by omega), ← hw, hsz, hln, Int.toNat_natCast, Int.toNat_natCast]
        have hVC : VC (S.length + 1) w = VV (S.length + 1 + 1) ((l.take (p + sz + ln)).drop (p + sz)) := by unfold VC; rw [if_pos hcons, hin]
        rw [List.length_cons, ← hVC] at hki
        by_cases hv : (VC (S.length + 1) w).1 ≠ 0
        · rw [if_pos hv] at hE
          refine ⟨ci + 5, by omega, fun k hk3 => ?_⟩
          rw [show k + (ci + 5) = k + ci + 5 by omega, step (k + ci) (by omega), if_pos hcons, hE]
          refine ⟨fun _ => ?_, fun q => absurd q hv⟩
          rw [(hki k hk3).1 hv]; refine congrArg some (Prod.ext ?_ rfl); simp only; rw [hsz]; omega
        · rw [if_neg hv] at hE
          have hdc0 : 0 ≤ (VC (S.length + 1) w).2.2 := V_depth _ _
          obtain ⟨c, hc, hk⟩ := tail (VC (S.length + 1) w).2.2 _ rfl hdc0
          refine ⟨ci + c + 7, by omega, fun k hk3 => ?_⟩
          obtain ⟨k1, k2⟩ := hk k hk3
          rw [show k + (ci + c + 7) = (k + c + 2) + ci + 5 by omega, step (k + c + 2 + ci) (by omega), if_pos hcons, (hki (k + c + 2) (by omega)).2 (Decidable.of_not_not hv), r_pop l (k + c) ((t : Int) :: S) (by simp; omega), if_neg (by simp), List.reverse_cons, hE]
          by_cases hr : (VV (S.length + 1) (w.drop (hSz w + hLen w).toNat)).1 ≠ 0
          · rw [if_pos hr]
            refine ⟨fun _ => ?_, fun q => absurd q hr⟩
            rw [k1 hr]; refine congrArg some (Prod.ext ?_ rfl); simp only; rw [hsz, hln]; omega
          · rw [if_neg hr]
            refine ⟨fun q => absurd rfl q, fun _ => ?_⟩
            rw [k2 (Decidable.of_not_not hr)]
            congr 1
            simp only; omega
    · have hVC : VC (S.length + 1) w = (0, 0, 0) := by unfold VC; rw [if_neg hcons]
      rw [hVC, if_neg (fun q => q rfl)] at hE
      obtain ⟨c, hc, hk⟩ := tail 0 _ rfl (Int.le_refl _)
      refine ⟨c + 5, by omega, fun k hk3 => ?_⟩
      have s2 := step (k + c) (by omega)
      rw [if_neg hcons] at s2
      obtain ⟨k1, k2⟩ := hk k hk3
      rw [← e1] at k1 k2
      rw [show k + (c + 5) = k + c + 5 by omega, s2, hE]
      by_cases hr : (VV (S.length + 1) (w.drop (hSz w + hLen w).toNat)).1 ≠ 0
      · rw [if_pos hr]
        refine ⟨fun _ => ?_, fun q => absurd q hr⟩
        rw [k1 hr]; refine congrArg some (Prod.ext ?_ rfl); simp only; rw [hsz, hln]; omega
      · rw [if_neg hr]
        refine ⟨fun q => absurd rfl q, fun _ => ?_⟩
        rw [k2 (Decidable.of_not_not hr)]
        congr 1
        simp only; omega

theorem Well_f (l : List Int) (hl : l.length ≤ 100000) (hb : ∀ x ∈ l, 0 ≤ x ∧ x < 256) (k : Nat) (hk : 9000000 ≤ k) : sobriquetref01_Well.f k l = some (if (T l).1 = 0 then (0, 0, (T l).2.2) else ((T l).2.1, (T l).1, 0)) := by
  obtain ⟨k, rfl⟩ : ∃ m, k = m + 4 := ⟨k - 4, by omega⟩
  have hw : l = (l.take l.length).drop 0 := by simp
  have h3 : sobriquetref01_Well.j3 (k + 1) l [] 0 0 (l.length : Int) = if hdc 0 l ≠ 0 then some (0, hdc 0 l, 0) else sobriquetref01_Well.j4 k l [] 0 0 (l.length : Int) false (hCls l) (hTag l) (hCons l) (hLen l) (hSz l) :=
    rj3 l (by omega) hb k (by omega) [] 0 l.length 0 (by omega) (Nat.le_refl _) l hw
  unfold sobriquetref01_Well.f
  rw [sobriquetref01_Well.l0, sobriquetref01_Well.l1, if_neg (by simp), sobriquetref01_Well.j2, if_neg (by decide), if_neg (by simp), h3]
  unfold T
  by_cases hh : hdc 0 l ≠ 0
  · rw [if_pos hh, if_pos hh, if_neg hh]
  rw [if_neg hh, if_neg hh]
  have h0 := hdc_ok (Decidable.of_not_not hh)
  obtain ⟨_, b1, b2, b3, b4, _⟩ := hd_bounds l hb h0.2.1
  obtain ⟨sz, hsz⟩ := Int.eq_ofNat_of_zero_le (show 0 ≤ hSz l by omega)
  obtain ⟨ln, hln⟩ := Int.eq_ofNat_of_zero_le b3
  have h5 := h0.2.2.2.2
  rw [hsz, hln] at h5
  obtain ⟨k, rfl⟩ : ∃ m, k = m + 1 := ⟨k - 1, by omega⟩
  have h4 : sobriquetref01_Well.j4 (k + 1) l [] 0 0 (l.length : Int) false (hCls l) (hTag l) (hCons l) (hLen l) (hSz l) = if hCons l = true then sobriquetref01_Well.l0 k l ([] ++ [((0 + sz + ln : Nat) : Int)]) ((0 + sz : Nat) : Int) (max 0 (0 + 1))
      else if 0 = 0 then (if ((0 + sz + ln : Nat) : Int) < (l.length : Int) then some (((0 + sz + ln : Nat) : Int), 5, 0) else some (0, 0, max 0 (0 + 1)))
      else sobriquetref01_Well.l0 k l [] ((0 + sz + ln : Nat) : Int) (max 0 (0 + 1)) :=
    rj4 l (by omega) k [] (by decide) 0 l.length 0 l (by omega) (by omega) (Nat.le_refl _) sz ln hsz hln h5 h0.2.2.2.1
  rw [h4, show 0 + sz + ln = sz + ln by omega, show 0 + sz = sz by omega, show max (0 : Int) (0 + 1) = 1 by decide]
  have fin : ∀ (d : Int), 0 ≤ d → (if ((sz + ln : Nat) : Int) < (l.length : Int) then some ((((sz + ln : Nat) : Int), (5 : Int), (0 : Int))) else some (0, 0, max 1 d)) = some (if (if hSz l + hLen l < (l.length : Int) then (5 : Int) else 0, hSz l + hLen l, max 1 d).1 = 0 then (0, 0, (if hSz l + hLen l < (l.length : Int) then (5 : Int) else 0, hSz l + hLen l, max 1 d).2.2) else ((if hSz l + hLen l < (l.length : Int) then (5 : Int) else 0, hSz l + hLen l, max 1 d).2.1, (if hSz l + hLen l < (l.length : Int) then (5 : Int) else 0, hSz l + hLen l, max 1 d).1, 0)) := by
    intro d _
    rw [hsz, hln, show (sz : Int) + (ln : Nat) = ((sz + ln : Nat) : Int) by omega]
    by_cases q : ((sz + ln : Nat) : Int) < (l.length : Int)
    · simp only [if_pos q]; rfl
    · simp only [if_neg q]; rfl
  by_cases hcons : hCons l = true
  · rw [if_pos hcons]
    obtain ⟨k, rfl⟩ : ∃ m, k = m + 1 := ⟨k - 1, by omega⟩
    rw [sobriquetref01_Well.l0]
    by_cases hl0 : ln = 0
    · have hVC : VC 0 l = (0, 0, 0) := by unfold VC; rw [if_pos hcons, hln, hl0]; simp [VV_nil]
      obtain ⟨k, rfl⟩ : ∃ m, k = m + 2 := ⟨k - 2, by omega⟩
      have hp := r_pop l k [] (by simp) ((sz + ln : Nat) : Int) 1
      rw [hVC, show ((sz : Nat) : Int) = ((sz + ln : Nat) : Int) by omega]
      simp only [ne_eq, not_true_eq_false, if_false]
      rw [if_pos (show ([] : List Int).length = 0 from rfl)] at hp
      exact hp.trans (fin 0 (Int.le_refl _))
    · obtain ⟨c, hc, hki⟩ := run_R l (by omega) hb ln sz (sz + ln) [] 1 (by omega) (by omega) (by omega) (by simp)
      have hin : (l.take (sz + ln)).drop sz = (l.drop (hSz l).toNat).take (hLen l).toNat := by
        rw [hsz, hln, Int.toNat_natCast, Int.toNat_natCast, List.drop_take]; congr 1; omega
      have hVC : VC 0 l = VV (0 + 1) ((l.take (sz + ln)).drop sz) := by unfold VC; rw [if_pos hcons, hin]
      rw [List.length_nil, ← hVC] at hki
      by_cases hv : (VC 0 l).1 ≠ 0
      · have hd := (hki (k - c) (by omega)).1 hv
        rw [show k - c + c = k by omega] at hd
        rw [if_pos hv, if_neg hv, hsz]
        exact hd
      · have hd := (hki (k - c) (by omega)).2 (Decidable.of_not_not hv)
        rw [show k - c + c = k by omega] at hd
        have hp := r_pop l (k - c - 2) [] (by simp) ((sz + ln : Nat) : Int) (max 1 (VC 0 l).2.2)
        rw [if_pos (show ([] : List Int).length = 0 from rfl), show k - c - 2 + 2 = k - c by omega] at hp
        rw [if_neg hv]
        exact (hd.trans hp).trans (fin _ (V_depth _ _))
  · have hVC : VC 0 l = (0, 0, 0) := by unfold VC; rw [if_neg hcons]
    rw [if_neg hcons, if_pos (show 0 = 0 from rfl), hVC]
    simp only [ne_eq, not_true_eq_false, if_false]
    exact fin 0 (Int.le_refl _)

theorem rOne_f (w : List Int) (hl : w.length ≤ 100000) (hb : ∀ x ∈ w, 0 ≤ x ∧ x < 256) (k : Nat) (hk : 3000000 ≤ k) (lv : Nat) (h : hdc lv w = 0) : ∃ a b c d e, sobriquetref01_One.f k w = some (a, b, c, d, e, hSz w + hLen w, 0) := by
  have h0 := hdc_ok h
  obtain ⟨_, b1, b2, b3, b4, _⟩ := hd_bounds w hb h0.2.1
  have h5 := h0.2.2.2.2
  unfold sobriquetref01_One.f
  rw [ref_f w (by omega) hb k hk]
  simp only [Option.bind_some]
  have eE : (readH w).2.2.2.2.2 = 0 := h0.2.1
  have eL : (readH w).2.2.2.1 = hLen w := rfl
  have eS : (readH w).2.2.2.2.1 = hSz w := rfl
  rw [eE, eL, eS, if_pos rfl, w64 (x := (w.length : Int) - hSz w) (by omega) (by omega), if_neg (by omega), w64 (by omega) (by omega)]
  exact ⟨_, _, _, _, _, rfl⟩
theorem parts_both : ∀ (N : Nat) (w : List Int) (acc : List (List Int)), w.length ≤ N → (∀ x ∈ w, 0 ≤ x ∧ x < 256) → (VV 1 w).1 = 0 → w.length ≤ 10000 → acc.length + w.length ≤ 100000 →
    ∃ ps : List (List Int), ps.length ≤ w.length ∧ (∀ x ∈ ps, x.length ≤ w.length) ∧ ∀ k, 3000000 + w.length < k → Go.Proofs.Ytogbpdmncnldhaa.Base.well_Parts.l0 k w acc = some (acc ++ ps, 0) ∧ sobriquetref01_Parts.l0 k w acc = some (acc ++ ps) := by
  intro N
  induction N with
  | zero =>
    intro w acc hN hb hv hl ha
    have hw : w = [] := List.eq_nil_of_length_eq_zero (by omega)
    subst hw
    refine ⟨[], by simp, by simp, fun k hk => ?_⟩
    obtain ⟨k, rfl⟩ : ∃ m, k = m + 1 := ⟨k - 1, by omega⟩
    rw [Go.Proofs.Ytogbpdmncnldhaa.Base.well_Parts.l0, if_neg (by simp), sobriquetref01_Parts.l0, if_neg (by simp), List.append_nil]
    exact ⟨rfl, rfl⟩
  | succ N ih =>
    intro w acc hN hb hv hl ha
    by_cases hw : w = []
    · subst hw
      refine ⟨[], by simp, by simp, fun k hk => ?_⟩
      obtain ⟨k, rfl⟩ : ∃ m, k = m + 1 := ⟨k - 1, by omega⟩
      rw [Go.Proofs.Ytogbpdmncnldhaa.Base.well_Parts.l0, if_neg (by simp), sobriquetref01_Parts.l0, if_neg (by simp), List.append_nil]
      exact ⟨rfl, rfl⟩
    obtain ⟨h1, h2, h3, _⟩ := VV_zero 1 w hb hw hv
    obtain ⟨i1, i2, i3, i4, i5⟩ := inner_len hb h1
    obtain ⟨n, hn⟩ := Int.eq_ofNat_of_zero_le (show 0 ≤ hSz w + hLen w by omega)
    have hE := hdc_ok h1
    obtain ⟨_, b1, b2, b3, b4, _⟩ := hd_bounds w hb hE.2.1
    rw [hn, Int.toNat_natCast] at h3
    obtain ⟨ps, p1, p2, p3⟩ := ih (w.drop n) (acc ++ [w.take n]) (by rw [List.length_drop]; omega) (bytes_drop hb _) h3 (by rw [List.length_drop]; omega) (by rw [List.length_drop, List.length_append]; simp; omega)
    have hpos : 0 < w.length := by cases w with | nil => exact absurd rfl hw | cons => simp
    rw [List.length_drop] at p1 p2
    refine ⟨w.take n :: ps, by simp only [List.length_cons]; omega, fun x hx => ?_, fun k hk => ?_⟩
    · rcases List.mem_cons.mp hx with q | q
      · rw [q, List.length_take]; omega
      · have := p2 x q; omega
    obtain ⟨k, rfl⟩ : ∃ m, k = m + 1 := ⟨k - 1, by omega⟩
    obtain ⟨q1, q2⟩ := p3 k (by rw [List.length_drop]; omega)
    have e5 : (readH w).2.2.2.2.1 = hSz w := rfl
    have e4 : (readH w).2.2.2.1 = hLen w := rfl
    obtain ⟨a, b, c, d, e, ho⟩ := rOne_f w (by omega) hb k (by omega) 1 h1
    refine ⟨?_, ?_⟩
    · rw [Go.Proofs.Ytogbpdmncnldhaa.Base.well_Parts.l0, if_pos hpos, read_f w (by omega) hb k (by omega)]
      simp only [Option.bind_some]
      rw [e5, e4, if_pos ⟨by omega, by omega, by omega, by omega, by omega, by omega⟩, hn, Int.toNat_natCast, bClone_f _ (by rw [List.length_take]; omega)]
      simp only [Option.bind_some]
      rw [q1, List.append_assoc]; rfl
    · rw [sobriquetref01_Parts.l0, if_pos (by omega), ho]
      simp only [Option.bind_some, if_true]
      rw [hn, if_pos (by omega), if_pos (by omega), Int.toNat_natCast, Twin_f _ (by rw [List.length_take]; omega)]
      simp only [Option.bind_some]
      rw [if_pos (by omega), q2, List.append_assoc]; rfl

theorem Parts_cases (l : List Int) (hl : l.length ≤ 700) (hb : ∀ x ∈ l, 0 ≤ x ∧ x < 256) (k : Nat) (hk : 5900000000 ≤ k) :
    ((T l).1 ≠ 0 → well_Parts.f k l = some ([], (T l).1)) ∧
    ((T l).1 = 0 → hCons l = false → well_Parts.f k l = some ([], 7)) ∧
    ((T l).1 = 0 → hCons l = true → ∃ ps : List (List Int), ps.length ≤ 1000 ∧ (∀ x ∈ ps, x.length ≤ 1000) ∧ well_Parts.f k l = some (ps, 0) ∧ sobriquetref01_Parts.f k (l.drop (hSz l).toNat) = some ps) := by
  obtain ⟨dd, hw, _⟩ := walk_T l (by omega) hb k (by omega)
  have e : ∀ r, Go.Proofs.Ytogbpdmncnldhaa.Base.well_Parts.f k l = r → well_Parts.f k l = r := fun r h => h
  have one : (T l).1 = 0 → ∃ c, l.drop (hSz l).toNat = c ∧ (c.length : Int) = hLen l ∧ Go.Proofs.Ytogbpdmncnldhaa.Base.tlv_One.f k l = some (hCls l, hTag l, hCons l, hLen l, hSz l, c, [], 0) := by
    intro h
    obtain ⟨t1, t2, t3, t4⟩ := T_ok hb h
    have h0 := hdc_ok t1
    obtain ⟨ok, b1, b2, b3, b4, hs, u, hu⟩ := hd_bounds l hb h0.2.1
    have hul : (u.length : Int) = hLen l := by
      have := congrArg List.length hu
      rw [List.length_append] at this
      omega
    have hd : l.drop (hSz l).toNat = u := by
      have e1 : (hSz l).toNat = (encH (hCls l) (hTag l) (hCons l) (hLen l)).length := by omega
      rw [e1]
      have := congrArg (List.drop (encH (hCls l) (hTag l) (hCons l) (hLen l)).length) hu
      rw [List.drop_left] at this
      exact this
    have hub : ∀ x ∈ u, 0 ≤ x ∧ x < 256 := fun x hx => hb x (by rw [hu]; exact List.mem_append_right _ hx)
    have q := bOne_f k (by omega) (hCls l) (hTag l) (hCons l) (hLen l) ok u [] hul (by omega) (by simp) hub (by simp)
    rw [List.append_nil, ← hu, ← hs] at q
    exact ⟨u, hd, hul, q⟩
  refine ⟨fun h => e _ ?_, fun h hc => e _ ?_, fun h hc => ?_⟩
  · unfold Go.Proofs.Ytogbpdmncnldhaa.Base.well_Parts.f
    rw [hw]
    simp only [Option.bind_some]
    rw [if_neg h]
  · obtain ⟨c, _, _, ho⟩ := one h
    unfold Go.Proofs.Ytogbpdmncnldhaa.Base.well_Parts.f
    rw [hw, ho]
    simp only [Option.bind_some]
    rw [if_pos h, hc, if_neg (by decide)]
  · obtain ⟨c, hd, hcl, ho⟩ := one h
    obtain ⟨t1, t2, t3, t4⟩ := T_ok hb h
    have hv : (VV 1 c).1 = 0 := by
      unfold VC at t2
      rw [if_pos hc, hd, List.take_of_length_le (by omega)] at t2
      exact t2
    have hcb : ∀ x ∈ c, 0 ≤ x ∧ x < 256 := by rw [← hd]; exact bytes_drop hb _
    have hcl2 : c.length ≤ 700 := by have := congrArg List.length hd; rw [List.length_drop] at this; omega
    obtain ⟨ps, p1, p2, p3⟩ := parts_both c.length c [] (Nat.le_refl _) hcb hv (by omega) (by simp; omega)
    obtain ⟨q1, q2⟩ := p3 k (by omega)
    rw [List.nil_append] at q1 q2
    refine ⟨ps, by omega, fun x hx => by have := p2 x hx; omega, e _ ?_, ?_⟩
    · unfold Go.Proofs.Ytogbpdmncnldhaa.Base.well_Parts.f
      rw [hw, ho]
      simp only [Option.bind_some]
      rw [if_pos h, if_pos hc]
      exact q1
    · unfold sobriquetref01_Parts.f
      rw [hd]
      exact q2
theorem WellExact : sobriquetlaw02_WellExact.Pure := by
  intro l _ _ hb0
  have hb := wfu8 hb0
  by_cases h7 : (l.length : Int) > 700
  · exact ⟨0, by unfold sobriquetlaw02_WellExact.f; rw [if_pos h7]⟩
  refine ⟨6000000000, ?_⟩
  unfold sobriquetlaw02_WellExact.f
  rw [if_neg h7, Twin_f l (by omega)]
  simp only [Option.bind_some]
  obtain ⟨pa, pb, pc⟩ := Parts_cases l (by omega) hb 6000000000 (by decide)
  rw [mCheck l (by omega) hb _ (by decide), mDepth l (by omega) hb _ (by decide), Well_f l (by omega) hb _ (by decide)]
  simp only [Option.bind_some]
  by_cases h0 : (T l).1 = 0
  · rw [if_pos h0, if_pos h0, if_pos h0]
    obtain ⟨t1, t2, t3, t4⟩ := T_ok hb h0
    have hE := hdc_ok t1
    obtain ⟨_, b1, b2, b3, b4, _⟩ := hd_bounds l hb hE.2.1
    have fin : ∀ (ps : List (List Int)) (f : Int), (hCons l = true ∧ f = 0 ∧ sobriquetref01_Parts.f 5999999998 (l.drop (hSz l).toNat) = some ps ∧ ps.length ≤ 1000 ∧ (∀ x ∈ ps, x.length ≤ 1000)) ∨ (hCons l = false ∧ f = 7 ∧ ps = []) →
        sobriquetlaw02_WellExact.j0 6000000000 l ps f (T l).2.2 0 0 (T l).2.2 false = some true := by
      intro ps f hf
      have eC : (readH l).2.2.1 = hCons l := rfl
      have eS : (readH l).2.2.2.2.1 = hSz l := rfl
      rw [show (6000000000 : Nat) = 5999999999 + 1 from rfl, sobriquetlaw02_WellExact.j0, if_neg (by decide), if_pos rfl, ref_f l (by omega) hb _ (by decide)]
      simp only [Option.bind_some, if_true]
      rw [show ((T l).2.2 != (T l).2.2) = false from by simp, show (5999999999 : Nat) = 5999999998 + 1 from rfl, sobriquetlaw02_WellExact.j1, if_neg (by decide), eC, eS]
      rcases hf with ⟨c1, c2, c3, c4, c5⟩ | ⟨c1, c2, c3⟩
      · rw [if_pos c1, if_pos c2, if_pos (by omega), if_pos (by omega), c3]
        simp only [Option.bind_some]
        rw [Rows_f ps c4 c5 _ (by decide)]
        simp only [Option.bind_some, if_true]
        rw [wakes_ok _ (by decide)]; rfl
      · rw [if_neg (by rw [c1]; decide), if_pos c2, c3, if_pos (show (([] : List (List Int)).length : Int) = 0 from rfl), wakes_ok _ (by decide)]; rfl
    obtain ⟨_, _, pc2⟩ := Parts_cases l (by omega) hb 5999999998 (by decide)
    cases hc : hCons l with
    | false =>
      rw [pb h0 hc]
      simp only [Option.bind_some, if_true]
      rw [Bytes_f l l _ (by omega) (by omega), dec_t _ rfl]
      simp only [Option.bind_some]
      exact fin [] 7 (.inr ⟨hc, rfl, rfl⟩)
    | true =>
      obtain ⟨ps, p1, p2, p3, p4⟩ := pc h0 hc
      rw [p3]
      simp only [Option.bind_some, if_true]
      rw [Bytes_f l l _ (by omega) (by omega), dec_t _ rfl]
      simp only [Option.bind_some]
      have p5 : sobriquetref01_Parts.f 5999999998 (l.drop (hSz l).toNat) = some ps := by
        obtain ⟨ps2, _, _, _, r4⟩ := pc2 h0 hc
        have m := at_rounds (sobriquetref01_Parts.mono (l.drop (hSz l).toNat)) (show 5999999998 ≤ 6000000000 by decide) r4
        rw [p4] at m
        rw [r4]; exact m.symm
      exact fin ps 0 (.inl ⟨hc, rfl, p5, p1, p2⟩)
  · rw [if_neg h0, if_neg h0, if_neg h0, pa h0]
    simp only [Option.bind_some, if_true]
    rw [Bytes_f l l _ (by omega) (by omega), dec_t _ rfl]
    simp only [Option.bind_some]
    rw [show (6000000000 : Nat) = 5999999999 + 1 from rfl, sobriquetlaw02_WellExact.j0, if_neg (by decide), if_neg h0, if_pos rfl, if_pos rfl, if_pos rfl, if_pos (show (([] : List (List Int)).length : Int) = 0 from rfl), wakes_ok _ (by decide)]
    rfl

end Go.Proofs.Ytogbpdmncnldhaa.Pure
