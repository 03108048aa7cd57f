/- WellParts: well-formed values, one behind the other in a sequence or a set, are a well-formed value, as deep as the deepest and one; its parts are they. -/
import Derived.Test.YtogbpdmncnldhaaMWellPartsx3
namespace Go.Proofs.Ytogbpdmncnldhaa.Pure
open Go.RowKit Go.Proofs.Ytogbpdmncnldhaa.MWellParts Go.Proofs.YtogbpdmncnldhaaW.PrintWords Go.Proofs.YtogbpdmncnldhaaW.PrintLast
set_option linter.unusedVariables false
set_option linter.unusedSimpArgs false
set_option maxHeartbeats 1000000

open Go.Proofs.Ytogbpdmncnldhaa.Base hiding well_Check.f well_Check.mono well_Check.calls well_Depth.f well_Depth.mono well_Depth.calls well_Parts.f well_Parts.mono well_Parts.calls tlv_Read.f tlv_Read.mono tlv_Read.calls bytes_Clone.f bytes_Clone.calls tlv_One.f tlv_One.mono tlv_One.calls sobriquetref01_septets.f sobriquetref01_septets.l0 sobriquetref01_septets.mono
theorem mCheck (l : List Int) (hl : l.length ≤ 1000000) (hb : ∀ x ∈ l, 0 ≤ x ∧ x < 256) (k : Nat) (hk : 5000000 ≤ k) : well_Check.f k l = some (if (T l).1 = 0 then (0, 0) else ((T l).2.1, (T l).1)) := Check_f l hl hb k hk
theorem mDepth (l : List Int) (hl : l.length ≤ 1000000) (hb : ∀ x ∈ l, 0 ≤ x ∧ x < 256) (k : Nat) (hk : 5000000 ≤ k) : well_Depth.f k l = some (if (T l).1 = 0 then ((T l).2.2, 0) else (0, (T l).1)) := Depth_f l hl hb k hk
theorem wakes_ok (k : Nat) (hk : 100 ≤ k) : sobriquetlaw02_wakes.f k = some true := at_rounds sobriquetlaw02_wakes.mono hk (by decide +kernel)

theorem Bytes_l0 (a b : List Int) (hl : a.length = b.length) (hm : a.length ≤ 4611686018427387904) : ∀ (d k i : Nat), i + d = a.length → d < k → sobriquetkeep_Bytes.l0 k a b (i : Int) = some (decide (a.drop i = b.drop i)) := by
  intro d
  induction d with
  | zero =>
    intro k i hi hk
    obtain ⟨k, rfl⟩ : ∃ m, k = m + 1 := ⟨k - 1, by omega⟩
    simp only [sobriquetkeep_Bytes.l0]
    rw [if_neg (by omega), List.drop_eq_nil_of_le (by omega), List.drop_eq_nil_of_le (by omega)]
    simp
  | succ d ih =>
    intro k i hi hk
    obtain ⟨k, rfl⟩ : ∃ m, k = m + 1 := ⟨k - 1, by omega⟩
    have ha : i < a.length := by omega
    have hb : i < b.length := by omega
    simp only [sobriquetkeep_Bytes.l0]
    rw [if_pos (by omega), if_pos (by omega), if_pos (by omega), rd_nat a i ha, rd_nat b i hb, w64_nat ha hm, ih k (i + 1) (by omega) (by omega), List.drop_eq_getElem_cons ha, List.drop_eq_getElem_cons hb]
    by_cases h : a[i] = b[i]
    · simp only [h, if_true, List.cons.injEq, true_and]
    · simp only [h, if_false, List.cons.injEq, false_and, decide_false]
theorem Bytes_f (a b : List Int) (k : Nat) (hm : a.length ≤ 4611686018427387904) (hk : a.length < k) : sobriquetkeep_Bytes.f k a b = some (decide (a = b)) := by
  unfold sobriquetkeep_Bytes.f
  by_cases hl : a.length = b.length
  · rw [if_pos (by omega)]
    have := Bytes_l0 a b hl hm a.length k 0 (by omega) hk
    simpa using this
  · rw [if_neg (by omega)]
    have : a ≠ b := fun h => hl (by rw [h])
    simp [this]

theorem bClone_f (l : List Int) (h : l.length ≤ 140737488355328) : Go.Proofs.Ytogbpdmncnldhaa.Base.bytes_Clone.f l = some l := if_pos h
theorem bOne_f (k : Nat) (hk : 3000000 ≤ k) (cls tag : Int) (cons : Bool) (len : Int) (ok : okH cls tag len) (c r : List Int) (hc : (c.length : Int) = len) (hcl : c.length ≤ 100000) (hrl : r.length ≤ 100000) (hcb : ∀ x ∈ c, 0 ≤ x ∧ x < 256) (hrb : ∀ x ∈ r, 0 ≤ x ∧ x < 256) : Go.Proofs.Ytogbpdmncnldhaa.Base.tlv_One.f k ((encH cls tag cons len ++ c) ++ r) = some (cls, tag, cons, len, ((encH cls tag cons len).length : Int), c, r, 0) := by
  have hE := encH_len cls tag cons len ok
  have hb := encH_b cls tag cons len ok
  unfold Go.Proofs.Ytogbpdmncnldhaa.Base.tlv_One.f
  rw [List.append_assoc, read_f _ (by simp; omega) (fun x hx => by
    rcases List.mem_append.mp hx with h | h
    · exact hb x h
    · rcases List.mem_append.mp h with h | h
      · exact hcb x h
      · exact hrb x h) k hk, readH_enc cls tag cons len ok (c ++ r)]
  generalize encH cls tag cons len = E at *
  simp only [Option.bind_some, if_true]
  have e1 : wrap64 (((E ++ (c ++ r)).length : Int) - (E.length : Int)) = (c.length : Int) + r.length := by
    rw [w64 (by simp; omega) (by simp; omega)]; simp; omega
  have e2 : wrap64 ((E.length : Int) + len) = ((E.length + c.length : Nat) : Int) := by
    rw [w64 (by omega) (by omega)]; omega
  have t1 : ((E ++ (c ++ r)).take (E.length + c.length)).drop E.length = c := by
    rw [show E ++ (c ++ r) = (E ++ c) ++ r from (List.append_assoc ..).symm, show E.length + c.length = (E ++ c).length by simp, List.take_left, List.drop_left]
  have t2 : (E ++ (c ++ r)).drop (E.length + c.length) = r := by
    rw [show E ++ (c ++ r) = (E ++ c) ++ r from (List.append_assoc ..).symm, show E.length + c.length = (E ++ c).length by simp, List.drop_left]
  rw [e1, e2, if_neg (by omega), if_pos (by omega), if_pos (by omega), if_pos (by simp only [List.length_append]; omega), Int.toNat_natCast, Int.toNat_natCast, t1, t2, bClone_f c (by omega), bClone_f r (by omega)]
  simp only [Option.bind_some]
  rw [if_pos (by omega)]

theorem hd_enc (cls tag : Int) (cons : Bool) (len : Int) (h : okH cls tag len) (t : List Int) : hErr (encH cls tag cons len ++ t) = 0 ∧ hCls (encH cls tag cons len ++ t) = cls ∧ hTag (encH cls tag cons len ++ t) = tag ∧ hCons (encH cls tag cons len ++ t) = cons ∧ hLen (encH cls tag cons len ++ t) = len ∧ hSz (encH cls tag cons len ++ t) = ((encH cls tag cons len).length : Int) := by
  have e := readH_enc cls tag cons len h t
  unfold hErr hCls hTag hCons hLen hSz
  rw [e]
  exact ⟨rfl, rfl, rfl, rfl, rfl, rfl⟩
/-- The head check of a header that is followed by its content. -/
theorem hdc_enc (lv : Nat) (hlv : lv < 32) (cls tag : Int) (cons : Bool) (len : Int) (h : okH cls tag len) (t : List Int) (ht : len ≤ (t.length : Int)) :
    hdc lv (encH cls tag cons len ++ t) = if cls = 0 ∧ tag = 0 then 3 else if rightP cls tag cons = false then 7 else 0 := by
  obtain ⟨e1, e2, e3, e4, e5, e6⟩ := hd_enc cls tag cons len h t
  unfold hdc
  rw [if_neg (by omega), e1, if_neg (by decide), e2, e3, e4, e5, e6]
  split
  · rfl
  · split
    · rfl
    · rw [if_neg (by rw [List.length_append]; omega)]

theorem hd_ext (w t : List Int) (hb : ∀ x ∈ w, 0 ≤ x ∧ x < 256) (h : hErr w = 0) : hErr (w ++ t) = 0 ∧ hCls (w ++ t) = hCls w ∧ hTag (w ++ t) = hTag w ∧ hCons (w ++ t) = hCons w ∧ hLen (w ++ t) = hLen w ∧ hSz (w ++ t) = hSz w := by
  obtain ⟨ok, _, _, _, _, hs, u, hu⟩ := hd_bounds w hb h
  have e := hd_enc (hCls w) (hTag w) (hCons w) (hLen w) ok (u ++ t)
  rw [← List.append_assoc, ← hu, ← hs] at e
  exact e
theorem hdc_ext (lv : Nat) (w t : List Int) (hb : ∀ x ∈ w, 0 ≤ x ∧ x < 256) (h : hdc lv w = 0) : hdc lv (w ++ t) = 0 := by
  have h0 := hdc_ok h
  obtain ⟨e1, e2, e3, e4, e5, e6⟩ := hd_ext w t hb h0.2.1
  unfold hdc
  rw [if_neg (by omega), e1, if_neg (by decide), e2, e3, e4, e5, e6, if_neg h0.2.2.1, if_neg (by rw [h0.2.2.2.1]; decide), if_neg (by rw [List.length_append]; have := h0.2.2.2.2; omega)]
theorem VC_ext (lv : Nat) (w t : List Int) (hb : ∀ x ∈ w, 0 ≤ x ∧ x < 256) (h : hErr w = 0) (hl : hSz w + hLen w ≤ (w.length : Int)) : VC lv (w ++ t) = VC lv w := by
  obtain ⟨e1, e2, e3, e4, e5, e6⟩ := hd_ext w t hb h
  obtain ⟨_, b1, b2, b3, b4, _⟩ := hd_bounds w hb h
  unfold VC
  rw [e4, e5, e6, List.drop_append_of_le_length (by omega), List.take_append_of_le_length (by rw [List.length_drop]; omega)]
theorem T_ok {l : List Int} (hb : ∀ x ∈ l, 0 ≤ x ∧ x < 256) (h : (T l).1 = 0) : hdc 0 l = 0 ∧ (VC 0 l).1 = 0 ∧ hSz l + hLen l = (l.length : Int) ∧ T l = (0, (l.length : Int), max 1 (VC 0 l).2.2) := by
  unfold T at h
  by_cases h1 : hdc 0 l ≠ 0
  · rw [if_pos h1] at h; exact absurd h h1
  rw [if_neg h1] at h
  by_cases h2 : (VC 0 l).1 ≠ 0
  · rw [if_pos h2] at h; exact absurd h h2
  rw [if_neg h2] at h
  have h0 := hdc_ok (Decidable.of_not_not h1)
  have h5 := h0.2.2.2.2
  by_cases h3 : hSz l + hLen l < (l.length : Int)
  · rw [if_pos h3] at h; cases h
  refine ⟨Decidable.of_not_not h1, Decidable.of_not_not h2, by omega, ?_⟩
  unfold T
  rw [if_neg h1, if_neg h2, if_neg h3, show hSz l + hLen l = (l.length : Int) by omega]
theorem T_ext {l t : List Int} (hb : ∀ x ∈ l, 0 ≤ x ∧ x < 256) (h : (T l).1 = 0) (ht : 0 < t.length) : T (l ++ t) = (5, (l.length : Int), max 1 (VC 0 l).2.2) := by
  obtain ⟨h1, h2, h3, _⟩ := T_ok hb h
  have h0 := hdc_ok h1
  obtain ⟨e1, e2, e3, e4, e5, e6⟩ := hd_ext l t hb h0.2.1
  unfold T
  rw [if_neg (by rw [hdc_ext 0 l t hb h1]; decide), VC_ext 0 l t hb h0.2.1 (by omega), if_neg (by rw [h2]; decide), e5, e6, h3, if_pos (by rw [List.length_append]; omega)]

theorem hdc_lift (lv : Nat) (h : lv + 1 < 32) (w : List Int) : hdc (lv + 1) w = hdc lv w := by
  unfold hdc
  rw [if_neg (by omega), if_neg (show ¬ 32 ≤ lv by omega)]
theorem VV_zero (lv : Nat) (w : List Int) (hb : ∀ x ∈ w, 0 ≤ x ∧ x < 256) (hw : w ≠ []) (h : (VV lv w).1 = 0) :
    hdc lv w = 0 ∧ (VC lv w).1 = 0 ∧ (VV lv (w.drop (hSz w + hLen w).toNat)).1 = 0 ∧ VV lv w = (0, 0, max ((lv : Int) + 1) (max (VC lv w).2.2 (VV lv (w.drop (hSz w + hLen w).toNat)).2.2)) := by
  have e := VV_cons lv w hb hw
  rw [e] at h
  by_cases h1 : hdc lv w ≠ 0
  · rw [if_pos h1] at h; exact absurd h h1
  rw [if_neg h1] at h e
  by_cases h2 : (VC lv w).1 ≠ 0
  · rw [if_pos h2] at h; exact absurd h h2
  rw [if_neg h2] at h e
  by_cases h3 : (VV lv (w.drop (hSz w + hLen w).toNat)).1 ≠ 0
  · rw [if_pos h3] at h; exact absurd h h3
  rw [if_neg h3] at e
  exact ⟨Decidable.of_not_not h1, Decidable.of_not_not h2, Decidable.of_not_not h3, e⟩
theorem inner_len {w : List Int} (hb : ∀ x ∈ w, 0 ≤ x ∧ x < 256) {lv : Nat} (h : hdc lv w = 0) :
    2 ≤ hSz w ∧ 0 ≤ hLen w ∧ (((w.drop (hSz w).toNat).take (hLen w).toNat).length : Int) = hLen w ∧ ((w.drop (hSz w + hLen w).toNat).length : Int) = w.length - hSz w - hLen w ∧ hSz w + hLen w ≤ (w.length : Int) := by
  have h0 := hdc_ok h
  obtain ⟨_, b1, b2, b3, b4, _⟩ := hd_bounds w hb h0.2.1
  have h5 := h0.2.2.2.2
  refine ⟨b1, b3, ?_, ?_, by omega⟩
  · rw [List.length_take, List.length_drop]; omega
  · rw [List.length_drop]; omega
theorem depth_bound : ∀ (N : Nat) (lv : Nat) (w : List Int), w.length ≤ N → (∀ x ∈ w, 0 ≤ x ∧ x < 256) → (VV lv w).1 = 0 → 2 * (VV lv w).2.2 ≤ 2 * (lv : Int) + w.length := by
  intro N
  induction N with
  | zero =>
    intro lv w hN hb h
    rw [show w = [] from List.eq_nil_of_length_eq_zero (by omega), VV_nil]; simp only [List.length_nil]; omega
  | succ N ih =>
    intro lv w hN hb h
    by_cases hw : w = []
    · rw [hw, VV_nil]; simp only [List.length_nil]; omega
    obtain ⟨h1, h2, h3, e⟩ := VV_zero lv w hb hw h
    obtain ⟨a1, a2, a3, a4, a5⟩ := inner_len hb h1
    have r := ih lv (w.drop (hSz w + hLen w).toNat) (by omega) (bytes_drop hb _) h3
    have c : 2 * (VC lv w).2.2 ≤ 2 * (lv : Int) + w.length := by
      unfold VC at h2 ⊢
      by_cases hc : hCons w = true
      · rw [if_pos hc] at h2 ⊢
        have := ih (lv + 1) ((w.drop (hSz w).toNat).take (hLen w).toNat) (by omega) (bytes_take (bytes_drop hb _) _) h2
        omega
      · rw [if_neg hc]; simp only; omega
    rw [e]
    simp only
    omega
theorem lift_ok : ∀ (N : Nat) (lv : Nat) (w : List Int), w.length ≤ N → (∀ x ∈ w, 0 ≤ x ∧ x < 256) → (VV lv w).1 = 0 → (VV lv w).2.2 + 1 ≤ 32 → VV (lv + 1) w = (0, 0, if w = [] then 0 else (VV lv w).2.2 + 1) := by
  intro N
  induction N with
  | zero =>
    intro lv w hN hb h hd
    rw [show w = [] from List.eq_nil_of_length_eq_zero (by omega), VV_nil, if_pos rfl]
  | succ N ih =>
    intro lv w hN hb h hd
    by_cases hw : w = []
    · rw [hw, VV_nil, if_pos rfl]
    obtain ⟨h1, h2, h3, e⟩ := VV_zero lv w hb hw h
    obtain ⟨a1, a2, a3, a4, a5⟩ := inner_len hb h1
    rw [e] at hd
    simp only at hd
    have hlv : lv + 1 < 32 := by omega
    have r := ih lv (w.drop (hSz w + hLen w).toNat) (by omega) (bytes_drop hb _) h3 (by omega)
    have rn : w.drop (hSz w + hLen w).toNat = [] → (VV lv (w.drop (hSz w + hLen w).toNat)).2.2 = 0 := fun q => by rw [q, VV_nil]
    have c : (VC (lv + 1) w).1 = 0 ∧ ((VC lv w).2.2 = 0 ∧ (VC (lv + 1) w).2.2 = 0 ∨ (VC (lv + 1) w).2.2 = (VC lv w).2.2 + 1) := by
      unfold VC at h2 hd ⊢
      by_cases hc : hCons w = true
      · rw [if_pos hc] at h2 hd ⊢
        rw [if_pos hc]
        have := ih (lv + 1) ((w.drop (hSz w).toNat).take (hLen w).toNat) (by omega) (bytes_take (bytes_drop hb _) _) h2 (by omega)
        rw [this]
        refine ⟨rfl, ?_⟩
        by_cases hq : (w.drop (hSz w).toNat).take (hLen w).toNat = []
        · rw [if_pos hq, hq, VV_nil]; exact .inl ⟨rfl, rfl⟩
        · rw [if_neg hq]; exact .inr rfl
      · rw [if_neg hc, if_neg hc]; exact ⟨rfl, .inl ⟨rfl, rfl⟩⟩
    have e2 := VV_cons (lv + 1) w hb hw
    rw [hdc_lift lv hlv, if_neg (by rw [h1]; decide), if_neg (by rw [c.1]; decide), r, if_neg (fun q => q rfl)] at e2
    rw [e2, if_neg hw, e]
    simp only
    refine Prod.ext rfl (Prod.ext rfl ?_)
    show max (((lv + 1 : Nat) : Int) + 1) (max (VC (lv + 1) w).2.2 _) = max ((lv : Int) + 1) _ + 1
    by_cases hr : w.drop (hSz w + hLen w).toNat = []
    · rw [if_pos hr, rn hr]; omega
    · rw [if_neg hr]; omega
theorem lift_bad : ∀ (N : Nat) (lv : Nat) (w : List Int), w.length ≤ N → (∀ x ∈ w, 0 ≤ x ∧ x < 256) → (VV lv w).1 ≠ 0 → 2 * (lv + 1) + w.length ≤ 62 → (VV (lv + 1) w).1 = (VV lv w).1 ∧ (VV (lv + 1) w).2.1 = (VV lv w).2.1 := by
  intro N
  induction N with
  | zero =>
    intro lv w hN hb h _
    rw [show w = [] from List.eq_nil_of_length_eq_zero (by omega), VV_nil] at h; exact absurd rfl h
  | succ N ih =>
    intro lv w hN hb h hs
    by_cases hw : w = []
    · rw [hw, VV_nil] at h; exact absurd rfl h
    have hlv : lv + 1 < 32 := by omega
    have e := VV_cons lv w hb hw
    have e2 := VV_cons (lv + 1) w hb hw
    rw [hdc_lift lv hlv] at e2
    by_cases h1 : hdc lv w ≠ 0
    · rw [if_pos h1] at e e2; rw [e, e2]; exact ⟨rfl, rfl⟩
    rw [if_neg h1] at e e2
    obtain ⟨a1, a2, a3, a4, a5⟩ := inner_len hb (Decidable.of_not_not h1)
    have hcb := bytes_take (bytes_drop hb (hSz w).toNat) (hLen w).toNat
    by_cases h2 : (VC lv w).1 ≠ 0
    · rw [if_pos h2] at e
      have c : (VC (lv + 1) w).1 = (VC lv w).1 ∧ (VC (lv + 1) w).2.1 = (VC lv w).2.1 := by
        unfold VC at h2 ⊢
        by_cases hc : hCons w = true
        · rw [if_pos hc] at h2 ⊢
          rw [if_pos hc]
          exact ih (lv + 1) _ (by omega) hcb h2 (by omega)
        · rw [if_neg hc] at h2; exact absurd rfl h2
      rw [if_pos (by rw [c.1]; exact h2)] at e2
      rw [e, e2]
      exact ⟨c.1, by simp only; rw [c.2]⟩
    · rw [if_neg h2] at e
      have c : (VC (lv + 1) w).1 = 0 := by
        unfold VC at h2 ⊢
        by_cases hc : hCons w = true
        · rw [if_pos hc] at h2 ⊢
          have d := depth_bound _ (lv + 1) _ (Nat.le_refl _) hcb (Decidable.of_not_not h2)
          rw [lift_ok _ (lv + 1) _ (Nat.le_refl _) hcb (Decidable.of_not_not h2) (by omega)]
        · rw [if_neg hc]
      rw [if_neg (by rw [c]; decide)] at e2
      by_cases h3 : (VV lv (w.drop (hSz w + hLen w).toNat)).1 ≠ 0
      · rw [if_pos h3] at e
        have r := ih lv (w.drop (hSz w + hLen w).toNat) (by omega) (bytes_drop hb _) h3 (by omega)
        rw [if_pos (by rw [r.1]; exact h3)] at e2
        rw [e, e2]
        exact ⟨r.1, by simp only; rw [r.2]⟩
      · rw [if_neg h3] at e
        rw [e] at h
        exact absurd rfl h
theorem V_off : ∀ (N : Nat) (lv : Nat) (w : List Int), w.length ≤ N → (∀ x ∈ w, 0 ≤ x ∧ x < 256) → 0 ≤ (VV lv w).2.1 ∧ (VV lv w).2.1 ≤ w.length := by
  intro N
  induction N with
  | zero =>
    intro lv w hN hb
    rw [show w = [] from List.eq_nil_of_length_eq_zero (by omega), VV_nil]; simp only [List.length_nil]; omega
  | succ N ih =>
    intro lv w hN hb
    by_cases hw : w = []
    · rw [hw, VV_nil]; simp only [List.length_nil]; omega
    rw [VV_cons lv w hb hw]
    by_cases h1 : hdc lv w ≠ 0
    · rw [if_pos h1]; simp
    rw [if_neg h1]
    obtain ⟨a1, a2, a3, a4, a5⟩ := inner_len hb (Decidable.of_not_not h1)
    by_cases h2 : (VC lv w).1 ≠ 0
    · rw [if_pos h2]
      simp only
      unfold VC
      by_cases hc : hCons w = true
      · rw [if_pos hc]
        have := ih (lv + 1) ((w.drop (hSz w).toNat).take (hLen w).toNat) (by omega) (bytes_take (bytes_drop hb _) _)
        omega
      · rw [if_neg hc]; simp only; omega
    rw [if_neg h2]
    by_cases h3 : (VV lv (w.drop (hSz w + hLen w).toNat)).1 ≠ 0
    · rw [if_pos h3]
      have := ih lv (w.drop (hSz w + hLen w).toNat) (by omega) (bytes_drop hb _)
      simp only
      omega
    · rw [if_neg h3]; simp
theorem T_off (b : List Int) (hb : ∀ x ∈ b, 0 ≤ x ∧ x < 256) (hl : b.length ≤ 1000) : 0 ≤ (T b).2.1 ∧ (T b).2.1 ≤ 1000 := by
  unfold T
  by_cases h1 : hdc 0 b ≠ 0
  · rw [if_pos h1]; simp
  rw [if_neg h1]
  obtain ⟨a1, a2, a3, a4, a5⟩ := inner_len hb (Decidable.of_not_not h1)
  by_cases h2 : (VC 0 b).1 ≠ 0
  · rw [if_pos h2]
    simp only
    unfold VC
    by_cases hc : hCons b = true
    · rw [if_pos hc]
      have := V_off _ (0 + 1) ((b.drop (hSz b).toNat).take (hLen b).toNat) (Nat.le_refl _) (bytes_take (bytes_drop hb _) _)
      omega
    · rw [if_neg hc]; simp only; omega
  · rw [if_neg h2]; simp only; omega

theorem sept_l0 : ∀ (N k : Nat) (m : Int) (acc : List Int), m.toNat ≤ N → 0 ≤ m → m ≤ 268435455 → acc.length + N ≤ 3000000000 → N < k → sobriquetref01_septets.l0 k m acc = some (contBE m ++ acc) := by
  intro N
  induction N with
  | zero =>
    intro k m acc hm h0 h1 hl hk
    obtain ⟨k, rfl⟩ : ∃ j, k = j + 1 := ⟨k - 1, by omega⟩
    rw [sobriquetref01_septets.l0, if_neg (by omega), contBE_nil m (by omega)]; rfl
  | succ N ih =>
    intro k m acc hm h0 h1 hl hk
    obtain ⟨k, rfl⟩ : ∃ j, k = j + 1 := ⟨k - 1, by omega⟩
    rw [sobriquetref01_septets.l0]
    by_cases hp : m > 0
    · rw [if_pos hp, tmod_nn h0, tdiv_nn h0, w64 (x := 128 + m % 128) (by omega) (by omega), w64 (x := m / 128) (by omega) (by omega), show (128 + m % 128) % 256 = m % 128 + 128 by omega]
      simp only [Option.bind_some]
      rw [if_pos (by simp; omega), ih k (m / 128) _ (by omega) (by omega) (by omega) (by simp; omega) (by omega), contBE_pos m hp, List.append_assoc]
    · rw [if_neg hp, contBE_nil m (by omega)]; rfl
theorem sept_f (k : Nat) (hk : 1000000000 ≤ k) (n : Int) (h0 : 0 ≤ n) (h1 : n ≤ 268435455) : sobriquetref01_septets.f k n = some (contBE (n / 128) ++ [n % 128]) := by
  unfold sobriquetref01_septets.f
  rw [tdiv_nn h0, tmod_nn h0, w64 (by omega) (by omega), show n % 128 % 256 = n % 128 by omega, sept_l0 (n / 128).toNat k (n / 128) _ (Nat.le_refl _) (by omega) (by omega) (by simp; omega) (by omega)]
theorem hb_l0 (b : List Int) (hb : b.length ≤ 1000) : ∀ (N k : Nat) (m : Int) (acc : List Int), m.toNat ≤ N → 0 ≤ m → m ≤ 2147483647 → acc.length + N ≤ 3000000000 → N < k → (byBE m ++ acc).length ≤ 100 → sobriquetref01_HeadBytes.l0 k b acc m = some (b ++ (128 + ((byBE m ++ acc).length : Int)) :: (byBE m ++ acc)) := by
  intro N
  induction N with
  | zero =>
    intro k m acc hm h0 h1 hl hk h100
    obtain ⟨k, rfl⟩ : ∃ j, k = j + 1 := ⟨k - 1, by omega⟩
    rw [byBE_nil m (by omega), List.nil_append] at h100 ⊢
    rw [sobriquetref01_HeadBytes.l0, if_neg (by omega), if_pos (by omega), w64 (by omega) (by omega), show (128 + (acc.length : Int)) % 256 = 128 + (acc.length : Int) by omega]
    simp only [Option.bind_some]
    rw [if_pos (by simp; omega), List.append_assoc]; rfl
  | succ N ih =>
    intro k m acc hm h0 h1 hl hk h100
    obtain ⟨k, rfl⟩ : ∃ j, k = j + 1 := ⟨k - 1, by omega⟩
    by_cases hp : m > 0
    · have e : byBE m ++ acc = byBE (m / 256) ++ ([m % 256] ++ acc) := by rw [byBE_pos m hp, List.append_assoc]
      rw [e] at h100 ⊢
      rw [sobriquetref01_HeadBytes.l0, if_pos hp, tdiv_nn h0, w64 (x := m / 256) (by omega) (by omega)]
      simp only [Option.bind_some]
      rw [if_pos (by simp; omega), ih k (m / 256) _ (by omega) (by omega) (by omega) (by simp; omega) (by omega) h100]
    · rw [byBE_nil m (by omega), List.nil_append] at h100 ⊢
      rw [sobriquetref01_HeadBytes.l0, if_neg (by omega), if_pos (by omega), w64 (by omega) (by omega), show (128 + (acc.length : Int)) % 256 = 128 + (acc.length : Int) by omega]
      simp only [Option.bind_some]
      rw [if_pos (by simp; omega), List.append_assoc]; rfl
theorem HeadBytes_f (k : Nat) (hk : 5000000000 ≤ k) (cls tag : Int) (cons : Bool) (len size : Int) (ok : okH cls tag len) : sobriquetref01_HeadBytes.f k cls tag cons len size = some (encH cls tag cons len) := by
  obtain ⟨h1, h2, h3, h4, h5, h6⟩ := ok
  obtain ⟨k, rfl⟩ : ∃ j, k = j + 2 := ⟨k - 2, by omega⟩
  have hcl := contLE_len (tag / 128) (by omega) (by omega)
  have J1 : ∀ b : List Int, b.length ≤ 1000 → sobriquetref01_HeadBytes.j1 (k + 1) b cls tag cons len size = some (b ++ lenB len) := by
    intro b hb
    rw [sobriquetref01_HeadBytes.j1]
    by_cases c : len < 128
    · have e : lenB len = [len] := by unfold lenB; rw [if_pos c]
      rw [if_pos c, if_pos (by omega), e, show len % 256 = len by omega]
    · have h4' := byBE_len4 len (by omega) h6
      rw [if_neg c, hb_l0 b hb len.toNat k len [] (Nat.le_refl _) h5 h6 (by simp; omega) (by omega) (by simp; omega), lenB_big len c, List.append_nil]
  have J0 : ∀ x, 0 ≤ x → x ≤ 224 → sobriquetref01_HeadBytes.j0 (k + 2) x cls tag cons len size = some ((if tag < 31 then [x + tag] else (x + 31) :: (contBE (tag / 128) ++ [tag % 128])) ++ lenB len) := by
    intro x x0 x1
    rw [sobriquetref01_HeadBytes.j0]
    by_cases t : tag < 31
    · rw [if_pos t, if_pos t, w64 (by omega) (by omega), show (x + tag) % 256 = x + tag by omega, J1 _ (by simp)]
    · rw [if_neg t, if_neg t, sept_f (k + 1) (by omega) tag h3 h4, w64 (by omega) (by omega), show (x + 31) % 256 = x + 31 by omega]
      simp only [Option.bind_some]
      rw [if_pos (by simp [contBE]; omega), J1 _ (by simp [contBE]; omega)]; rfl
  unfold sobriquetref01_HeadBytes.f encH
  cases cons with
  | true => rw [if_pos rfl, if_pos rfl, w64 (x := cls * 64) (by omega) (by omega), w64 (x := cls * 64 + 32) (by omega) (by omega), J0 _ (by omega) (by omega)]
  | false => rw [if_neg (show ¬ (false = true) by decide), if_neg (show ¬ (false = true) by decide), w64 (x := cls * 64) (by omega) (by omega), J0 _ (by omega) (by omega), Int.add_zero]
theorem rWrap_f (k : Nat) (hk : 5000000000 ≤ k) (cls tag : Int) (cons : Bool) (l : List Int) (hl : l.length ≤ 1000000) (ok : okH cls tag l.length) : sobriquetref01_Wrap.f k cls tag cons l = some (encH cls tag cons l.length ++ l) := by
  have := encH_len cls tag cons _ ok
  unfold sobriquetref01_Wrap.f
  rw [HeadBytes_f k hk cls tag cons _ 0 ok]
  simp only [Option.bind_some]
  rw [if_pos (by omega)]

theorem rd_at (xs : List (List Int)) (i : Nat) (h : i < xs.length) : rd_L1 xs (i : Int) = xs[i] := by
  unfold rd_L1
  rw [Int.toNat_natCast, List.getD_eq_getElem?_getD, List.getElem?_eq_getElem h]; rfl
def maxd : List (List Int) → Int
  | [] => 0
  | x :: l => max (T x).2.2 (maxd l)
theorem maxd_nn : ∀ l, 0 ≤ maxd l
  | [] => Int.le_refl _
  | x :: l => by have := maxd_nn l; rw [maxd]; omega
theorem maxd_snoc : ∀ (l : List (List Int)) (x : List Int), maxd (l ++ [x]) = max (maxd l) (T x).2.2
  | [], x => by show max (T x).2.2 0 = max 0 (T x).2.2; omega
  | y :: l, x => by show max (T y).2.2 (maxd (l ++ [x])) = max (max (T y).2.2 (maxd l)) (T x).2.2; rw [maxd_snoc l x]; omega
/-- A good value ahead of others, at level 1. -/
theorem VV_good (g r : List Int) (hg : ∀ x ∈ g, 0 ≤ x ∧ x < 256) (hr : ∀ x ∈ r, 0 ≤ x ∧ x < 256) (h1 : (T g).1 = 0) (hd : (T g).2.2 < 32) (hv : (VV 1 r).1 = 0) : VV 1 (g ++ r) = (0, 0, max ((T g).2.2 + 1) (VV 1 r).2.2) ∧ 1 ≤ (T g).2.2 ∧ g ≠ [] := by
  obtain ⟨t1, t2, t3, t4⟩ := T_ok hg h1
  have gn : g ≠ [] := by
    intro q
    rw [q] at t1
    exact absurd t1 (by unfold hdc hErr readH; simp)
  have hE := hdc_ok t1
  rw [t4] at hd ⊢
  simp only at hd ⊢
  have hgood : (VC 1 g).1 = 0 ∧ ((VC 0 g).2.2 = 0 ∧ (VC 1 g).2.2 = 0 ∨ (VC 1 g).2.2 = (VC 0 g).2.2 + 1) := by
    unfold VC at t2 hd ⊢
    by_cases hc : hCons g = true
    · rw [if_pos hc] at t2 hd ⊢
      rw [if_pos hc]
      have q := lift_ok _ (0 + 1) _ (Nat.le_refl _) (bytes_take (bytes_drop hg (hSz g).toNat) (hLen g).toNat) t2 (by omega)
      refine ⟨congrArg Prod.fst q, ?_⟩
      by_cases hq : (g.drop (hSz g).toNat).take (hLen g).toNat = []
      · left; rw [hq, VV_nil, VV_nil]; exact ⟨rfl, rfl⟩
      · right
        rw [if_neg hq] at q
        exact congrArg (fun z => z.2.2) q
    · rw [if_neg hc, if_neg hc]; exact ⟨rfl, .inl ⟨rfl, rfl⟩⟩
  have hx := hd_ext g r hg hE.2.1
  have hgr : ∀ x ∈ g ++ r, 0 ≤ x ∧ x < 256 := fun x hx => (List.mem_append.mp hx).elim (hg x) (hr x)
  have eg := VV_cons 1 (g ++ r) hgr (by simp [gn])
  rw [hdc_ext 1 g r hg (by rw [hdc_lift 0 (by decide)]; exact t1), if_neg (by decide), VC_ext 1 g r hg hE.2.1 (by omega), hgood.1, if_neg (by decide), hx.2.2.2.2.1, hx.2.2.2.2.2, t3, Int.toNat_natCast, List.drop_left, hv, if_neg (by decide)] at eg
  have n0 := V_depth 0 g
  refine ⟨?_, by omega, gn⟩
  rw [eg]
  refine Prod.ext rfl (Prod.ext rfl ?_)
  show max (((1 : Nat) : Int) + 1) (max (VC 1 g).2.2 (VV 1 r).2.2) = max (max 1 (VC 0 g).2.2 + 1) (VV 1 r).2.2
  rcases hgood.2 with ⟨a, b⟩ | b <;> omega
theorem flat_bytes (l : List (List Int)) (h : ∀ x ∈ l, ∀ y ∈ x, 0 ≤ y ∧ y < 256) : ∀ y ∈ l.flatten, 0 ≤ y ∧ y < 256 := by
  intro y hy
  obtain ⟨x, hx, hyx⟩ := List.mem_flatten.1 hy
  exact h x hx y hyx
theorem VV_flat : ∀ (l : List (List Int)), (∀ x ∈ l, ∀ y ∈ x, 0 ≤ y ∧ y < 256) → (∀ x ∈ l, (T x).1 = 0) → maxd l < 32 → VV 1 l.flatten = (0, 0, if l = [] then 0 else maxd l + 1)
  | [], _, _, _ => by rw [List.flatten_nil, VV_nil, if_pos rfl]
  | g :: l, hb, hT, hd => by
    rw [maxd] at hd
    have ih := VV_flat l (fun x hx => hb x (by simp [hx])) (fun x hx => hT x (by simp [hx])) (by omega)
    obtain ⟨e, g1, _⟩ := VV_good g l.flatten (hb g (by simp)) (flat_bytes l (fun x hx => hb x (by simp [hx]))) (hT g (by simp)) (by omega) (by rw [ih])
    rw [List.flatten_cons, e, ih]
    refine Prod.ext rfl (Prod.ext rfl ?_)
    show max ((T g).2.2 + 1) (if l = [] then 0 else maxd l + 1) = (if g :: l = [] then 0 else max (T g).2.2 (maxd l) + 1)
    rw [if_neg (show ¬ (g :: l = []) from List.cons_ne_nil _ _)]
    by_cases q : l = []
    · rw [if_pos q, q]; show max _ 0 = max _ 0 + 1; omega
    · rw [if_neg q]; omega
theorem parts_flat : ∀ (l : List (List Int)) (k : Nat) (acc : List (List Int)), (∀ x ∈ l, ∀ y ∈ x, 0 ≤ y ∧ y < 256) → (∀ x ∈ l, (T x).1 = 0) → l.flatten.length ≤ 100000 → acc.length + l.length ≤ 1000 → 3000000 + l.length < k →
    Go.Proofs.Ytogbpdmncnldhaa.Base.well_Parts.l0 k l.flatten acc = some (acc ++ l, 0)
  | [], k, acc, _, _, _, _, hk => by
    obtain ⟨k, rfl⟩ : ∃ m, k = m + 1 := ⟨k - 1, by simp at hk; omega⟩
    rw [List.flatten_nil, Go.Proofs.Ytogbpdmncnldhaa.Base.well_Parts.l0, if_neg (by simp), List.append_nil]
  | g :: l, k, acc, hb, hT, hl, ha, hk => by
    obtain ⟨k, rfl⟩ : ∃ m, k = m + 1 := ⟨k - 1, by simp at hk; omega⟩
    have hg := hb g (by simp)
    have hr := flat_bytes l (fun x hx => hb x (by simp [hx]))
    obtain ⟨t1, t2, t3, t4⟩ := T_ok hg (hT g (by simp))
    have gn : g ≠ [] := by
      intro q
      rw [q] at t1
      exact absurd t1 (by unfold hdc hErr readH; simp)
    have hpos : 0 < g.length := by cases g with | nil => exact absurd rfl gn | cons => simp
    have hE := hdc_ok t1
    obtain ⟨_, b1, b2, b3, b4, _⟩ := hd_bounds g hg hE.2.1
    obtain ⟨x1, x2, x3, x4, x5, x6⟩ := hd_ext g l.flatten hg hE.2.1
    have hgr : ∀ x ∈ g ++ l.flatten, 0 ≤ x ∧ x < 256 := fun x hx => (List.mem_append.mp hx).elim (hg x) (hr x)
    rw [List.flatten_cons] at hl ⊢
    rw [List.length_append] at hl
    simp only [List.length_cons] at ha hk
    have e5 : (readH (g ++ l.flatten)).2.2.2.2.1 = hSz g := x6
    have e4 : (readH (g ++ l.flatten)).2.2.2.1 = hLen g := x5
    rw [Go.Proofs.Ytogbpdmncnldhaa.Base.well_Parts.l0, if_pos (by rw [List.length_append]; omega), read_f _ (by rw [List.length_append]; omega) hgr k (by omega)]
    simp only [Option.bind_some]
    rw [e5, e4, if_pos ⟨by omega, by omega, by omega, by omega, by rw [List.length_append]; omega, by omega⟩, t3, Int.toNat_natCast, List.take_left, List.drop_left, bClone_f g (by omega)]
    simp only [Option.bind_some]
    rw [parts_flat l k (acc ++ [g]) (fun x hx => hb x (by simp [hx])) (fun x hx => hT x (by simp [hx])) (by omega) (by simp; omega) (by omega)]
    simp
theorem Rows_l0 (l : List (List Int)) (hl : l.length ≤ 1000) (hx : ∀ x ∈ l, x.length ≤ 1000) : ∀ (d k i : Nat), i + d = l.length → 2000 + d < k → sobriquetkeep_Rows.l0 k l l (i : Int) = some true := by
  intro d
  induction d with
  | zero =>
    intro k i hi hk
    obtain ⟨k, rfl⟩ : ∃ m, k = m + 1 := ⟨k - 1, by omega⟩
    rw [sobriquetkeep_Rows.l0, if_neg (by omega)]
  | succ d ih =>
    intro k i hi hk
    obtain ⟨k, rfl⟩ : ∃ m, k = m + 1 := ⟨k - 1, by omega⟩
    have h : i < l.length := by omega
    have hxi := hx l[i] (List.getElem_mem h)
    rw [sobriquetkeep_Rows.l0, if_pos (by omega), if_pos (by omega), if_pos (by omega), rd_at l i h, Bytes_f _ _ k (by omega) (by omega), dec_t _ rfl]
    simp only [Option.bind_some, if_true]
    rw [w64_nat h (by omega)]
    exact ih k (i + 1) (by omega) (by omega)
theorem Rows_f (l : List (List Int)) (hl : l.length ≤ 1000) (hx : ∀ x ∈ l, x.length ≤ 1000) (k : Nat) (hk : 4000 ≤ k) : sobriquetkeep_Rows.f k l l = some true := by
  unfold sobriquetkeep_Rows.f
  rw [if_pos rfl]
  exact Rows_l0 l hl hx l.length k 0 (by omega) (by omega)
theorem P_j2 (l : List (List Int)) (hl : l.length ≤ 20) (hx : ∀ x ∈ l, x.length ≤ 60) (hb : ∀ x ∈ l, ∀ y ∈ x, 0 ≤ y ∧ y < 256) (hT : ∀ x ∈ l, (T x).1 = 0) (hd : maxd l < 32) (hfl : l.flatten.length ≤ 1200) (k : Nat) (hk : 5500000000 ≤ k) (tag : Int) (ht : tag = 16 ∨ tag = 17) :
    sobriquetlaw02_WellParts.j2 k l l.flatten (maxd l) tag = some true := by
  obtain ⟨k, rfl⟩ : ∃ m, k = m + 1 := ⟨k - 1, by omega⟩
  have fb := flat_bytes l hb
  have ok : okH 0 tag (l.flatten.length : Int) := ⟨by decide, by decide, by omega, by omega, by omega, by omega⟩
  have hE := encH_len 0 tag true l.flatten.length ok
  have hby : ∀ x ∈ encH 0 tag true l.flatten.length ++ l.flatten, 0 ≤ x ∧ x < 256 := fun x hx => (List.mem_append.mp hx).elim (encH_b _ _ _ _ ok x) (fb x)
  have hlen : (encH 0 tag true l.flatten.length ++ l.flatten).length ≤ 1000000 := by rw [List.length_append]; omega
  have hm := maxd_nn l
  have hTT : T (encH 0 tag true l.flatten.length ++ l.flatten) = (0, ((encH 0 tag true l.flatten.length).length : Int) + l.flatten.length, maxd l + 1) := by
    obtain ⟨e1, e2, e3, e4, e5, e6⟩ := hd_enc 0 tag true l.flatten.length ok l.flatten
    have e := hdc_enc 0 (by decide) 0 tag true l.flatten.length ok l.flatten (Int.le_refl _)
    rw [if_neg (by omega), if_neg (by rcases ht with rfl | rfl <;> decide)] at e
    have hVC : VC 0 (encH 0 tag true l.flatten.length ++ l.flatten) = VV 1 l.flatten := by
      unfold VC
      rw [e4, if_pos rfl, e5, e6, Int.toNat_natCast, Int.toNat_natCast, List.drop_left, List.take_length]
    unfold T
    rw [if_neg (by rw [e]; decide), hVC, VV_flat l hb hT hd, if_neg (by simp), e5, e6, if_neg (by rw [List.length_append]; omega)]
    refine Prod.ext rfl (Prod.ext rfl ?_)
    show max 1 (if l = [] then 0 else maxd l + 1) = maxd l + 1
    by_cases q : l = []
    · rw [if_pos q, q]; rfl
    · rw [if_neg q]; omega
  have h1 := bOne_f k (by omega) 0 tag true l.flatten.length ok l.flatten [] rfl (by omega) (by simp) fb (by simp)
  rw [List.append_nil] at h1
  have hP : well_Parts.f k (encH 0 tag true l.flatten.length ++ l.flatten) = some (l, 0) := by
    show Go.Proofs.Ytogbpdmncnldhaa.Base.well_Parts.f k _ = _
    obtain ⟨dd, hw, _⟩ := walk_T _ hlen hby k (by omega)
    unfold Go.Proofs.Ytogbpdmncnldhaa.Base.well_Parts.f
    rw [hw, hTT]
    simp only [Option.bind_some, if_true]
    rw [h1]
    simp only [Option.bind_some, if_true]
    rw [parts_flat l k [] hb hT (by omega) (by simp; omega) (by omega)]
    rfl
  rw [sobriquetlaw02_WellParts.j2, rWrap_f k (by omega) 0 tag true l.flatten (by omega) ok]
  simp only [Option.bind_some]
  rw [mCheck _ hlen hby k (by omega), mDepth _ hlen hby k (by omega), hP, hTT]
  simp only [Option.bind_some, if_true]
  rw [w64 (by omega) (by omega), if_pos rfl, Rows_f l (by omega) (fun x h => by have := hx x h; omega) k (by omega)]
  simp only [Option.bind_some, if_true]
  rw [wakes_ok k (by omega)]; rfl
theorem P_j1t (k : Nat) (hk : 200 ≤ k) (l : List (List Int)) (a : Bool) (acc : List Int) (d : Int) : sobriquetlaw02_WellParts.j1 k l a acc d true = some true := by
  obtain ⟨k, rfl⟩ : ∃ m, k = m + 1 := ⟨k - 1, by omega⟩
  rw [sobriquetlaw02_WellParts.j1, if_pos rfl, wakes_ok k (by omega)]; rfl
theorem P_l0 (l : List (List Int)) (hl : l.length ≤ 20) (hb : ∀ x ∈ l, ∀ y ∈ x, 0 ≤ y ∧ y < 256) (a : Bool) : ∀ (d k i : Nat) (acc : List Int) (deep : Int) (ok : Bool), i + d = l.length → 5600000000 + d ≤ k → acc.length ≤ 60 * i → (∀ x ∈ l.take i, x.length ≤ 60) →
    (ok = true → acc = (l.take i).flatten ∧ (∀ x ∈ l.take i, (T x).1 = 0) ∧ deep = maxd (l.take i)) → sobriquetlaw02_WellParts.l0 k l a acc deep ok (i : Int) = some true := by
  intro d
  induction d with
  | zero =>
    intro k i acc deep ok hi hk ha hx hok
    obtain ⟨k, rfl⟩ : ∃ m, k = m + 1 := ⟨k - 1, by omega⟩
    rw [sobriquetlaw02_WellParts.l0, if_neg (by omega)]
    cases ok with
    | false => rw [if_neg (by decide)]; exact P_j1t k (by omega) _ _ _ _
    | true =>
      rw [if_pos rfl]
      obtain ⟨e1, e2, e3⟩ := hok rfl
      rw [List.take_of_length_le (by omega)] at e1 e2 e3 hx
      by_cases h32 : deep ≥ 32
      · rw [dec_t _ h32]; exact P_j1t k (by omega) _ _ _ _
      · rw [dec_f _ h32]
        obtain ⟨k, rfl⟩ : ∃ m, k = m + 1 := ⟨k - 1, by omega⟩
        rw [sobriquetlaw02_WellParts.j1, if_neg (by decide), e1, e3]
        rw [e1] at ha
        cases a with
        | true => rw [if_pos rfl]; exact P_j2 l hl hx hb e2 (by omega) (by omega) k (by omega) 17 (.inr rfl)
        | false => rw [if_neg (by decide)]; exact P_j2 l hl hx hb e2 (by omega) (by omega) k (by omega) 16 (.inl rfl)
  | succ d ih =>
    intro k i acc deep ok hi hk ha hx hok
    obtain ⟨k, rfl⟩ : ∃ m, k = m + 1 := ⟨k - 1, by omega⟩
    have h : i < l.length := by omega
    have hbi := hb l[i] (List.getElem_mem h)
    rw [sobriquetlaw02_WellParts.l0, if_pos (by omega), if_pos (by omega), rd_at l i h]
    by_cases h60 : (l[i].length : Int) > 60
    · rw [if_pos h60]
    rw [if_neg h60, mCheck _ (by omega) hbi k (by omega), mDepth _ (by omega) hbi k (by omega)]
    simp only [Option.bind_some]
    have ts : l.take (i + 1) = l.take i ++ [l[i]] := by rw [List.take_succ_eq_append_getElem h]
    have hx2 : ∀ x ∈ l.take (i + 1), x.length ≤ 60 := by
      intro x hxm
      rw [ts] at hxm
      rcases List.mem_append.mp hxm with q | q
      · exact hx x q
      · rw [List.mem_singleton.mp q]; omega
    have eC : (if (T l[i]).1 = 0 then ((0 : Int), (0 : Int)) else ((T l[i]).2.1, (T l[i]).1)).2 = (T l[i]).1 := by
      by_cases q : (T l[i]).1 = 0
      · rw [if_pos q, q]
      · rw [if_neg q]
    rw [eC]
    have ha2 : (acc ++ l[i]).length ≤ 60 * (i + 1) := by rw [List.length_append]; omega
    have bad : ∀ dd, sobriquetlaw02_WellParts.l0 k l a (acc ++ l[i]) dd false (wrap64 ((i : Int) + 1)) = some true := by
      intro dd
      rw [w64_nat h (by omega)]
      exact ih k (i + 1) _ dd false (by omega) (by omega) ha2 hx2 (fun q => by cases q)
    cases ok with
    | false => rw [if_neg (by decide), if_pos (by omega)]; exact bad _
    | true =>
      rw [if_pos rfl]
      by_cases h0 : (T l[i]).1 = 0
      · obtain ⟨e1, e2, e3⟩ := hok rfl
        rw [if_pos h0, if_pos (by omega), if_pos h0]
        simp only
        rw [show (((0 : Int) == 0)) = true from rfl, w64_nat h (by omega)]
        refine ih k (i + 1) _ _ true (by omega) (by omega) ha2 hx2 (fun _ => ?_)
        rw [ts]
        refine ⟨by rw [List.flatten_append, e1]; simp, fun x hxm => ?_, ?_⟩
        · rcases List.mem_append.mp hxm with q | q
          · exact e2 x q
          · rw [List.mem_singleton.mp q]; exact h0
        · rw [maxd_snoc, e3]; unfold mx; split <;> omega
      · rw [if_neg h0, if_pos (by omega)]; exact bad _
theorem WellParts : sobriquetlaw02_WellParts.Pure := by
  intro l a _ hw
  have hb : ∀ x ∈ l, ∀ y ∈ x, 0 ≤ y ∧ y < 256 := fun x hx => wfu8 (hw x hx).2
  refine ⟨6000000000, ?_⟩
  unfold sobriquetlaw02_WellParts.f
  by_cases h : (l.length : Int) > 20
  · rw [if_pos h]
  rw [if_neg h]
  exact P_l0 l (by omega) hb a l.length 6000000000 0 [] 0 true (by omega) (by omega) (by simp) (by simp) (fun _ => ⟨by simp, by simp, rfl⟩)

end Go.Proofs.Ytogbpdmncnldhaa.Pure
