/- WellInside: a part that is not well formed makes the sequence around it not well formed, with the same error at its place in the whole. -/
import Derived.Test.YtogbpdmncnldhaaMWellInsidex2
namespace Go.Proofs.Ytogbpdmncnldhaa.Pure
open Go.RowKit Go.Proofs.Ytogbpdmncnldhaa.MWellInside Go.Proofs.YtogbpdmncnldhaaW.PrintWords Go.Proofs.YtogbpdmncnldhaaW.PrintLast
set_option linter.unusedVariables false
set_option linter.unusedSimpArgs false
set_option maxHeartbeats 1000000

open Go.Proofs.Ytogbpdmncnldhaa.Base hiding well_Check.f well_Check.mono well_Check.calls well_Depth.f well_Depth.mono well_Depth.calls well_Parts.f well_Parts.mono well_Parts.calls tlv_Read.f tlv_Read.mono tlv_Read.calls bytes_Clone.f bytes_Clone.calls tlv_One.f tlv_One.mono tlv_One.calls sobriquetref01_septets.f sobriquetref01_septets.l0 sobriquetref01_septets.mono
theorem mCheck (l : List Int) (hl : l.length ≤ 1000000) (hb : ∀ x ∈ l, 0 ≤ x ∧ x < 256) (k : Nat) (hk : 5000000 ≤ k) : well_Check.f k l = some (if (T l).1 = 0 then (0, 0) else ((T l).2.1, (T l).1)) := Check_f l hl hb k hk
theorem mDepth (l : List Int) (hl : l.length ≤ 1000000) (hb : ∀ x ∈ l, 0 ≤ x ∧ x < 256) (k : Nat) (hk : 5000000 ≤ k) : well_Depth.f k l = some (if (T l).1 = 0 then ((T l).2.2, 0) else (0, (T l).1)) := Depth_f l hl hb k hk
theorem wakes_ok (k : Nat) (hk : 100 ≤ k) : sobriquetlaw02_wakes.f k = some true := at_rounds sobriquetlaw02_wakes.mono hk (by decide +kernel)

theorem Twin_f (l : List Int) (h : l.length < 140737488355328) : sobriquetkeep_Twin.f l = some l := by
  unfold sobriquetkeep_Twin.f
  rw [if_pos (by simpa using h)]; simp

theorem hd_enc (cls tag : Int) (cons : Bool) (len : Int) (h : okH cls tag len) (t : List Int) : hErr (encH cls tag cons len ++ t) = 0 ∧ hCls (encH cls tag cons len ++ t) = cls ∧ hTag (encH cls tag cons len ++ t) = tag ∧ hCons (encH cls tag cons len ++ t) = cons ∧ hLen (encH cls tag cons len ++ t) = len ∧ hSz (encH cls tag cons len ++ t) = ((encH cls tag cons len).length : Int) := by
  have e := readH_enc cls tag cons len h t
  unfold hErr hCls hTag hCons hLen hSz
  rw [e]
  exact ⟨rfl, rfl, rfl, rfl, rfl, rfl⟩
/-- The head check of a header that is followed by its content. -/
theorem hdc_enc (lv : Nat) (hlv : lv < 32) (cls tag : Int) (cons : Bool) (len : Int) (h : okH cls tag len) (t : List Int) (ht : len ≤ (t.length : Int)) :
    hdc lv (encH cls tag cons len ++ t) = if cls = 0 ∧ tag = 0 then 3 else if rightP cls tag cons = false then 7 else 0 := by
  obtain ⟨e1, e2, e3, e4, e5, e6⟩ := hd_enc cls tag cons len h t
  unfold hdc
  rw [if_neg (by omega), e1, if_neg (by decide), e2, e3, e4, e5, e6]
  split
  · rfl
  · split
    · rfl
    · rw [if_neg (by rw [List.length_append]; omega)]

theorem hd_ext (w t : List Int) (hb : ∀ x ∈ w, 0 ≤ x ∧ x < 256) (h : hErr w = 0) : hErr (w ++ t) = 0 ∧ hCls (w ++ t) = hCls w ∧ hTag (w ++ t) = hTag w ∧ hCons (w ++ t) = hCons w ∧ hLen (w ++ t) = hLen w ∧ hSz (w ++ t) = hSz w := by
  obtain ⟨ok, _, _, _, _, hs, u, hu⟩ := hd_bounds w hb h
  have e := hd_enc (hCls w) (hTag w) (hCons w) (hLen w) ok (u ++ t)
  rw [← List.append_assoc, ← hu, ← hs] at e
  exact e
theorem hdc_ext (lv : Nat) (w t : List Int) (hb : ∀ x ∈ w, 0 ≤ x ∧ x < 256) (h : hdc lv w = 0) : hdc lv (w ++ t) = 0 := by
  have h0 := hdc_ok h
  obtain ⟨e1, e2, e3, e4, e5, e6⟩ := hd_ext w t hb h0.2.1
  unfold hdc
  rw [if_neg (by omega), e1, if_neg (by decide), e2, e3, e4, e5, e6, if_neg h0.2.2.1, if_neg (by rw [h0.2.2.2.1]; decide), if_neg (by rw [List.length_append]; have := h0.2.2.2.2; omega)]
theorem VC_ext (lv : Nat) (w t : List Int) (hb : ∀ x ∈ w, 0 ≤ x ∧ x < 256) (h : hErr w = 0) (hl : hSz w + hLen w ≤ (w.length : Int)) : VC lv (w ++ t) = VC lv w := by
  obtain ⟨e1, e2, e3, e4, e5, e6⟩ := hd_ext w t hb h
  obtain ⟨_, b1, b2, b3, b4, _⟩ := hd_bounds w hb h
  unfold VC
  rw [e4, e5, e6, List.drop_append_of_le_length (by omega), List.take_append_of_le_length (by rw [List.length_drop]; omega)]
theorem T_ok {l : List Int} (hb : ∀ x ∈ l, 0 ≤ x ∧ x < 256) (h : (T l).1 = 0) : hdc 0 l = 0 ∧ (VC 0 l).1 = 0 ∧ hSz l + hLen l = (l.length : Int) ∧ T l = (0, (l.length : Int), max 1 (VC 0 l).2.2) := by
  unfold T at h
  by_cases h1 : hdc 0 l ≠ 0
  · rw [if_pos h1] at h; exact absurd h h1
  rw [if_neg h1] at h
  by_cases h2 : (VC 0 l).1 ≠ 0
  · rw [if_pos h2] at h; exact absurd h h2
  rw [if_neg h2] at h
  have h0 := hdc_ok (Decidable.of_not_not h1)
  have h5 := h0.2.2.2.2
  by_cases h3 : hSz l + hLen l < (l.length : Int)
  · rw [if_pos h3] at h; cases h
  refine ⟨Decidable.of_not_not h1, Decidable.of_not_not h2, by omega, ?_⟩
  unfold T
  rw [if_neg h1, if_neg h2, if_neg h3, show hSz l + hLen l = (l.length : Int) by omega]
theorem T_ext {l t : List Int} (hb : ∀ x ∈ l, 0 ≤ x ∧ x < 256) (h : (T l).1 = 0) (ht : 0 < t.length) : T (l ++ t) = (5, (l.length : Int), max 1 (VC 0 l).2.2) := by
  obtain ⟨h1, h2, h3, _⟩ := T_ok hb h
  have h0 := hdc_ok h1
  obtain ⟨e1, e2, e3, e4, e5, e6⟩ := hd_ext l t hb h0.2.1
  unfold T
  rw [if_neg (by rw [hdc_ext 0 l t hb h1]; decide), VC_ext 0 l t hb h0.2.1 (by omega), if_neg (by rw [h2]; decide), e5, e6, h3, if_pos (by rw [List.length_append]; omega)]

theorem hdc_lift (lv : Nat) (h : lv + 1 < 32) (w : List Int) : hdc (lv + 1) w = hdc lv w := by
  unfold hdc
  rw [if_neg (by omega), if_neg (show ¬ 32 ≤ lv by omega)]
theorem VV_zero (lv : Nat) (w : List Int) (hb : ∀ x ∈ w, 0 ≤ x ∧ x < 256) (hw : w ≠ []) (h : (VV lv w).1 = 0) :
    hdc lv w = 0 ∧ (VC lv w).1 = 0 ∧ (VV lv (w.drop (hSz w + hLen w).toNat)).1 = 0 ∧ VV lv w = (0, 0, max ((lv : Int) + 1) (max (VC lv w).2.2 (VV lv (w.drop (hSz w + hLen w).toNat)).2.2)) := by
  have e := VV_cons lv w hb hw
  rw [e] at h
  by_cases h1 : hdc lv w ≠ 0
  · rw [if_pos h1] at h; exact absurd h h1
  rw [if_neg h1] at h e
  by_cases h2 : (VC lv w).1 ≠ 0
  · rw [if_pos h2] at h; exact absurd h h2
  rw [if_neg h2] at h e
  by_cases h3 : (VV lv (w.drop (hSz w + hLen w).toNat)).1 ≠ 0
  · rw [if_pos h3] at h; exact absurd h h3
  rw [if_neg h3] at e
  exact ⟨Decidable.of_not_not h1, Decidable.of_not_not h2, Decidable.of_not_not h3, e⟩
theorem inner_len {w : List Int} (hb : ∀ x ∈ w, 0 ≤ x ∧ x < 256) {lv : Nat} (h : hdc lv w = 0) :
    2 ≤ hSz w ∧ 0 ≤ hLen w ∧ (((w.drop (hSz w).toNat).take (hLen w).toNat).length : Int) = hLen w ∧ ((w.drop (hSz w + hLen w).toNat).length : Int) = w.length - hSz w - hLen w ∧ hSz w + hLen w ≤ (w.length : Int) := by
  have h0 := hdc_ok h
  obtain ⟨_, b1, b2, b3, b4, _⟩ := hd_bounds w hb h0.2.1
  have h5 := h0.2.2.2.2
  refine ⟨b1, b3, ?_, ?_, by omega⟩
  · rw [List.length_take, List.length_drop]; omega
  · rw [List.length_drop]; omega
theorem depth_bound : ∀ (N : Nat) (lv : Nat) (w : List Int), w.length ≤ N → (∀ x ∈ w, 0 ≤ x ∧ x < 256) → (VV lv w).1 = 0 → 2 * (VV lv w).2.2 ≤ 2 * (lv : Int) + w.length := by
  intro N
  induction N with
  | zero =>
    intro lv w hN hb h
    rw [show w = [] from List.eq_nil_of_length_eq_zero (by omega), VV_nil]; simp only [List.length_nil]; omega
  | succ N ih =>
    intro lv w hN hb h
    by_cases hw : w = []
    · rw [hw, VV_nil]; simp only [List.length_nil]; omega
    obtain ⟨h1, h2, h3, e⟩ := VV_zero lv w hb hw h
    obtain ⟨a1, a2, a3, a4, a5⟩ := inner_len hb h1
    have r := ih lv (w.drop (hSz w + hLen w).toNat) (by omega) (bytes_drop hb _) h3
    have c : 2 * (VC lv w).2.2 ≤ 2 * (lv : Int) + w.length := by
      unfold VC at h2 ⊢
      by_cases hc : hCons w = true
      · rw [if_pos hc] at h2 ⊢
        have := ih (lv + 1) ((w.drop (hSz w).toNat).take (hLen w).toNat) (by omega) (bytes_take (bytes_drop hb _) _) h2
        omega
      · rw [if_neg hc]; simp only; omega
    rw [e]
    simp only
    omega
theorem lift_ok : ∀ (N : Nat) (lv : Nat) (w : List Int), w.length ≤ N → (∀ x ∈ w, 0 ≤ x ∧ x < 256) → (VV lv w).1 = 0 → (VV lv w).2.2 + 1 ≤ 32 → VV (lv + 1) w = (0, 0, if w = [] then 0 else (VV lv w).2.2 + 1) := by
  intro N
  induction N with
  | zero =>
    intro lv w hN hb h hd
    rw [show w = [] from List.eq_nil_of_length_eq_zero (by omega), VV_nil, if_pos rfl]
  | succ N ih =>
    intro lv w hN hb h hd
    by_cases hw : w = []
    · rw [hw, VV_nil, if_pos rfl]
    obtain ⟨h1, h2, h3, e⟩ := VV_zero lv w hb hw h
    obtain ⟨a1, a2, a3, a4, a5⟩ := inner_len hb h1
    rw [e] at hd
    simp only at hd
    have hlv : lv + 1 < 32 := by omega
    have r := ih lv (w.drop (hSz w + hLen w).toNat) (by omega) (bytes_drop hb _) h3 (by omega)
    have rn : w.drop (hSz w + hLen w).toNat = [] → (VV lv (w.drop (hSz w + hLen w).toNat)).2.2 = 0 := fun q => by rw [q, VV_nil]
    have c : (VC (lv + 1) w).1 = 0 ∧ ((VC lv w).2.2 = 0 ∧ (VC (lv + 1) w).2.2 = 0 ∨ (VC (lv + 1) w).2.2 = (VC lv w).2.2 + 1) := by
      unfold VC at h2 hd ⊢
      by_cases hc : hCons w = true
      · rw [if_pos hc] at h2 hd ⊢
        rw [if_pos hc]
        have := ih (lv + 1) ((w.drop (hSz w).toNat).take (hLen w).toNat) (by omega) (bytes_take (bytes_drop hb _) _) h2 (by omega)
        rw [this]
        refine ⟨rfl, ?_⟩
        by_cases hq : (w.drop (hSz w).toNat).take (hLen w).toNat = []
        · rw [if_pos hq, hq, VV_nil]; exact .inl ⟨rfl, rfl⟩
        · rw [if_neg hq]; exact .inr rfl
      · rw [if_neg hc, if_neg hc]; exact ⟨rfl, .inl ⟨rfl, rfl⟩⟩
    have e2 := VV_cons (lv + 1) w hb hw
    rw [hdc_lift lv hlv, if_neg (by rw [h1]; decide), if_neg (by rw [c.1]; decide), r, if_neg (fun q => q rfl)] at e2
    rw [e2, if_neg hw, e]
    simp only
    refine Prod.ext rfl (Prod.ext rfl ?_)
    show max (((lv + 1 : Nat) : Int) + 1) (max (VC (lv + 1) w).2.2 _) = max ((lv : Int) + 1) _ + 1
    by_cases hr : w.drop (hSz w + hLen w).toNat = []
    · rw [if_pos hr, rn hr]; omega
    · rw [if_neg hr]; omega
theorem lift_bad : ∀ (N : Nat) (lv : Nat) (w : List Int), w.length ≤ N → (∀ x ∈ w, 0 ≤ x ∧ x < 256) → (VV lv w).1 ≠ 0 → 2 * (lv + 1) + w.length ≤ 62 → (VV (lv + 1) w).1 = (VV lv w).1 ∧ (VV (lv + 1) w).2.1 = (VV lv w).2.1 := by
  intro N
  induction N with
  | zero =>
    intro lv w hN hb h _
    rw [show w = [] from List.eq_nil_of_length_eq_zero (by omega), VV_nil] at h; exact absurd rfl h
  | succ N ih =>
    intro lv w hN hb h hs
    by_cases hw : w = []
    · rw [hw, VV_nil] at h; exact absurd rfl h
    have hlv : lv + 1 < 32 := by omega
    have e := VV_cons lv w hb hw
    have e2 := VV_cons (lv + 1) w hb hw
    rw [hdc_lift lv hlv] at e2
    by_cases h1 : hdc lv w ≠ 0
    · rw [if_pos h1] at e e2; rw [e, e2]; exact ⟨rfl, rfl⟩
    rw [if_neg h1] at e e2
    obtain ⟨a1, a2, a3, a4, a5⟩ := inner_len hb (Decidable.of_not_not h1)
    have hcb := bytes_take (bytes_drop hb (hSz w).toNat) (hLen w).toNat
    by_cases h2 : (VC lv w).1 ≠ 0
    · rw [if_pos h2] at e
      have c : (VC (lv + 1) w).1 = (VC lv w).1 ∧ (VC (lv + 1) w).2.1 = (VC lv w).2.1 := by
        unfold VC at h2 ⊢
        by_cases hc : hCons w = true
        · rw [if_pos hc] at h2 ⊢
          rw [if_pos hc]
          exact ih (lv + 1) _ (by omega) hcb h2 (by omega)
        · rw [if_neg hc] at h2; exact absurd rfl h2
      rw [if_pos (by rw [c.1]; exact h2)] at e2
      rw [e, e2]
      exact ⟨c.1, by simp only; rw [c.2]⟩
    · rw [if_neg h2] at e
      have c : (VC (lv + 1) w).1 = 0 := by
        unfold VC at h2 ⊢
        by_cases hc : hCons w = true
        · rw [if_pos hc] at h2 ⊢
          have d := depth_bound _ (lv + 1) _ (Nat.le_refl _) hcb (Decidable.of_not_not h2)
          rw [lift_ok _ (lv + 1) _ (Nat.le_refl _) hcb (Decidable.of_not_not h2) (by omega)]
        · rw [if_neg hc]
      rw [if_neg (by rw [c]; decide)] at e2
      by_cases h3 : (VV lv (w.drop (hSz w + hLen w).toNat)).1 ≠ 0
      · rw [if_pos h3] at e
        have r := ih lv (w.drop (hSz w + hLen w).toNat) (by omega) (bytes_drop hb _) h3 (by omega)
        rw [if_pos (by rw [r.1]; exact h3)] at e2
        rw [e, e2]
        exact ⟨r.1, by simp only; rw [r.2]⟩
      · rw [if_neg h3] at e
        rw [e] at h
        exact absurd rfl h
theorem V_off : ∀ (N : Nat) (lv : Nat) (w : List Int), w.length ≤ N → (∀ x ∈ w, 0 ≤ x ∧ x < 256) → 0 ≤ (VV lv w).2.1 ∧ (VV lv w).2.1 ≤ w.length := by
  intro N
  induction N with
  | zero =>
    intro lv w hN hb
    rw [show w = [] from List.eq_nil_of_length_eq_zero (by omega), VV_nil]; simp only [List.length_nil]; omega
  | succ N ih =>
    intro lv w hN hb
    by_cases hw : w = []
    · rw [hw, VV_nil]; simp only [List.length_nil]; omega
    rw [VV_cons lv w hb hw]
    by_cases h1 : hdc lv w ≠ 0
    · rw [if_pos h1]; simp
    rw [if_neg h1]
    obtain ⟨a1, a2, a3, a4, a5⟩ := inner_len hb (Decidable.of_not_not h1)
    by_cases h2 : (VC lv w).1 ≠ 0
    · rw [if_pos h2]
      simp only
      unfold VC
      by_cases hc : hCons w = true
      · rw [if_pos hc]
        have := ih (lv + 1) ((w.drop (hSz w).toNat).take (hLen w).toNat) (by omega) (bytes_take (bytes_drop hb _) _)
        omega
      · rw [if_neg hc]; simp only; omega
    rw [if_neg h2]
    by_cases h3 : (VV lv (w.drop (hSz w + hLen w).toNat)).1 ≠ 0
    · rw [if_pos h3]
      have := ih lv (w.drop (hSz w + hLen w).toNat) (by omega) (bytes_drop hb _)
      simp only
      omega
    · rw [if_neg h3]; simp
theorem T_off (b : List Int) (hb : ∀ x ∈ b, 0 ≤ x ∧ x < 256) (hl : b.length ≤ 1000) : 0 ≤ (T b).2.1 ∧ (T b).2.1 ≤ 1000 := by
  unfold T
  by_cases h1 : hdc 0 b ≠ 0
  · rw [if_pos h1]; simp
  rw [if_neg h1]
  obtain ⟨a1, a2, a3, a4, a5⟩ := inner_len hb (Decidable.of_not_not h1)
  by_cases h2 : (VC 0 b).1 ≠ 0
  · rw [if_pos h2]
    simp only
    unfold VC
    by_cases hc : hCons b = true
    · rw [if_pos hc]
      have := V_off _ (0 + 1) ((b.drop (hSz b).toNat).take (hLen b).toNat) (Nat.le_refl _) (bytes_take (bytes_drop hb _) _)
      omega
    · rw [if_neg hc]; simp only; omega
  · rw [if_neg h2]; simp only; omega

theorem sept_l0 : ∀ (N k : Nat) (m : Int) (acc : List Int), m.toNat ≤ N → 0 ≤ m → m ≤ 268435455 → acc.length + N ≤ 3000000000 → N < k → sobriquetref01_septets.l0 k m acc = some (contBE m ++ acc) := by
  intro N
  induction N with
  | zero =>
    intro k m acc hm h0 h1 hl hk
    obtain ⟨k, rfl⟩ : ∃ j, k = j + 1 := ⟨k - 1, by omega⟩
    rw [sobriquetref01_septets.l0, if_neg (by omega), contBE_nil m (by omega)]; rfl
  | succ N ih =>
    intro k m acc hm h0 h1 hl hk
    obtain ⟨k, rfl⟩ : ∃ j, k = j + 1 := ⟨k - 1, by omega⟩
    rw [sobriquetref01_septets.l0]
    by_cases hp : m > 0
    · rw [if_pos hp, tmod_nn h0, tdiv_nn h0, w64 (x := 128 + m % 128) (by omega) (by omega), w64 (x := m / 128) (by omega) (by omega), show (128 + m % 128) % 256 = m % 128 + 128 by omega]
      simp only [Option.bind_some]
      rw [if_pos (by simp; omega), ih k (m / 128) _ (by omega) (by omega) (by omega) (by simp; omega) (by omega), contBE_pos m hp, List.append_assoc]
    · rw [if_neg hp, contBE_nil m (by omega)]; rfl
theorem sept_f (k : Nat) (hk : 1000000000 ≤ k) (n : Int) (h0 : 0 ≤ n) (h1 : n ≤ 268435455) : sobriquetref01_septets.f k n = some (contBE (n / 128) ++ [n % 128]) := by
  unfold sobriquetref01_septets.f
  rw [tdiv_nn h0, tmod_nn h0, w64 (by omega) (by omega), show n % 128 % 256 = n % 128 by omega, sept_l0 (n / 128).toNat k (n / 128) _ (Nat.le_refl _) (by omega) (by omega) (by simp; omega) (by omega)]
theorem hb_l0 (b : List Int) (hb : b.length ≤ 1000) : ∀ (N k : Nat) (m : Int) (acc : List Int), m.toNat ≤ N → 0 ≤ m → m ≤ 2147483647 → acc.length + N ≤ 3000000000 → N < k → (byBE m ++ acc).length ≤ 100 → sobriquetref01_HeadBytes.l0 k b acc m = some (b ++ (128 + ((byBE m ++ acc).length : Int)) :: (byBE m ++ acc)) := by
  intro N
  induction N with
  | zero =>
    intro k m acc hm h0 h1 hl hk h100
    obtain ⟨k, rfl⟩ : ∃ j, k = j + 1 := ⟨k - 1, by omega⟩
    rw [byBE_nil m (by omega), List.nil_append] at h100 ⊢
    rw [sobriquetref01_HeadBytes.l0, if_neg (by omega), if_pos (by omega), w64 (by omega) (by omega), show (128 + (acc.length : Int)) % 256 = 128 + (acc.length : Int) by omega]
    simp only [Option.bind_some]
    rw [if_pos (by simp; omega), List.append_assoc]; rfl
  | succ N ih =>
    intro k m acc hm h0 h1 hl hk h100
    obtain ⟨k, rfl⟩ : ∃ j, k = j + 1 := ⟨k - 1, by omega⟩
    by_cases hp : m > 0
    · have e : byBE m ++ acc = byBE (m / 256) ++ ([m % 256] ++ acc) := by rw [byBE_pos m hp, List.append_assoc]
      rw [e] at h100 ⊢
      rw [sobriquetref01_HeadBytes.l0, if_pos hp, tdiv_nn h0, w64 (x := m / 256) (by omega) (by omega)]
      simp only [Option.bind_some]
      rw [if_pos (by simp; omega), ih k (m / 256) _ (by omega) (by omega) (by omega) (by simp; omega) (by omega) h100]
    · rw [byBE_nil m (by omega), List.nil_append] at h100 ⊢
      rw [sobriquetref01_HeadBytes.l0, if_neg (by omega), if_pos (by omega), w64 (by omega) (by omega), show (128 + (acc.length : Int)) % 256 = 128 + (acc.length : Int) by omega]
      simp only [Option.bind_some]
      rw [if_pos (by simp; omega), List.append_assoc]; rfl
theorem HeadBytes_f (k : Nat) (hk : 5000000000 ≤ k) (cls tag : Int) (cons : Bool) (len size : Int) (ok : okH cls tag len) : sobriquetref01_HeadBytes.f k cls tag cons len size = some (encH cls tag cons len) := by
  obtain ⟨h1, h2, h3, h4, h5, h6⟩ := ok
  obtain ⟨k, rfl⟩ : ∃ j, k = j + 2 := ⟨k - 2, by omega⟩
  have hcl := contLE_len (tag / 128) (by omega) (by omega)
  have J1 : ∀ b : List Int, b.length ≤ 1000 → sobriquetref01_HeadBytes.j1 (k + 1) b cls tag cons len size = some (b ++ lenB len) := by
    intro b hb
    rw [sobriquetref01_HeadBytes.j1]
    by_cases c : len < 128
    · have e : lenB len = [len] := by unfold lenB; rw [if_pos c]
      rw [if_pos c, if_pos (by omega), e, show len % 256 = len by omega]
    · have h4' := byBE_len4 len (by omega) h6
      rw [if_neg c, hb_l0 b hb len.toNat k len [] (Nat.le_refl _) h5 h6 (by simp; omega) (by omega) (by simp; omega), lenB_big len c, List.append_nil]
  have J0 : ∀ x, 0 ≤ x → x ≤ 224 → sobriquetref01_HeadBytes.j0 (k + 2) x cls tag cons len size = some ((if tag < 31 then [x + tag] else (x + 31) :: (contBE (tag / 128) ++ [tag % 128])) ++ lenB len) := by
    intro x x0 x1
    rw [sobriquetref01_HeadBytes.j0]
    by_cases t : tag < 31
    · rw [if_pos t, if_pos t, w64 (by omega) (by omega), show (x + tag) % 256 = x + tag by omega, J1 _ (by simp)]
    · rw [if_neg t, if_neg t, sept_f (k + 1) (by omega) tag h3 h4, w64 (by omega) (by omega), show (x + 31) % 256 = x + 31 by omega]
      simp only [Option.bind_some]
      rw [if_pos (by simp [contBE]; omega), J1 _ (by simp [contBE]; omega)]; rfl
  unfold sobriquetref01_HeadBytes.f encH
  cases cons with
  | true => rw [if_pos rfl, if_pos rfl, w64 (x := cls * 64) (by omega) (by omega), w64 (x := cls * 64 + 32) (by omega) (by omega), J0 _ (by omega) (by omega)]
  | false => rw [if_neg (show ¬ (false = true) by decide), if_neg (show ¬ (false = true) by decide), w64 (x := cls * 64) (by omega) (by omega), J0 _ (by omega) (by omega), Int.add_zero]
theorem rWrap_f (k : Nat) (hk : 5000000000 ≤ k) (cls tag : Int) (cons : Bool) (l : List Int) (hl : l.length ≤ 1000000) (ok : okH cls tag l.length) : sobriquetref01_Wrap.f k cls tag cons l = some (encH cls tag cons l.length ++ l) := by
  have := encH_len cls tag cons _ ok
  unfold sobriquetref01_Wrap.f
  rw [HeadBytes_f k hk cls tag cons _ 0 ok]
  simp only [Option.bind_some]
  rw [if_pos (by omega)]

theorem in_right : rightP 0 16 true = true := by decide
theorem T_inside (g b : List Int) (hg : ∀ x ∈ g, 0 ≤ x ∧ x < 256) (hb : ∀ x ∈ b, 0 ≤ x ∧ x < 256) (h1 : (T g).1 = 0) (hd : (T g).2.2 < 32) (hbl : b.length ≤ 58) (hgl : g.length ≤ 200)
    (b0 : (T b).1 ≠ 0) (b5 : (T b).1 ≠ 5) (bn : b ≠ []) : T (encH 0 16 true ((g ++ b).length : Int) ++ (g ++ b)) = ((T b).1, ((encH 0 16 true ((g ++ b).length : Int)).length : Int) + ((g.length : Int) + (T b).2.1), 0) := by
  have ok : okH 0 16 ((g ++ b).length : Int) := ⟨by decide, by decide, by decide, by decide, by omega, by rw [List.length_append]; omega⟩
  have hgb : ∀ x ∈ g ++ b, 0 ≤ x ∧ x < 256 := fun x hx => (List.mem_append.mp hx).elim (hg x) (hb x)
  obtain ⟨e1, e2, e3, e4, e5, e6⟩ := hd_enc 0 16 true ((g ++ b).length : Int) ok (g ++ b)
  have e := hdc_enc 0 (by decide) 0 16 true ((g ++ b).length : Int) ok (g ++ b) (Int.le_refl _)
  rw [if_neg (by decide), if_neg (by decide)] at e
  obtain ⟨t1, t2, t3, t4⟩ := T_ok hg h1
  have gn : g ≠ [] := by
    intro q
    rw [q] at t1
    exact absurd t1 (by unfold hdc hErr readH; simp)
  have hE := hdc_ok t1
  -- the sequence's content
  have hVC : VC 0 (encH 0 16 true ((g ++ b).length : Int) ++ (g ++ b)) = VV 1 (g ++ b) := by
    unfold VC
    rw [e4, if_pos rfl, e5, e6, Int.toNat_natCast, Int.toNat_natCast, List.drop_left, List.take_length]
  have hbad : (VV 1 b).1 = (T b).1 ∧ (VV 1 b).2.1 = (T b).2.1 := by
    have eb := VV_cons 1 b hb bn
    rw [hdc_lift 0 (by decide)] at eb
    unfold T at b0 b5 ⊢
    by_cases q1 : hdc 0 b ≠ 0
    · rw [if_pos q1] at eb ⊢
      rw [eb]; exact ⟨rfl, rfl⟩
    rw [if_neg q1] at eb b0 b5 ⊢
    obtain ⟨i1, i2, i3, i4, i5⟩ := inner_len hb (Decidable.of_not_not q1)
    by_cases q2 : (VC 0 b).1 ≠ 0
    · rw [if_pos q2]
      have c : (VC 1 b).1 = (VC 0 b).1 ∧ (VC 1 b).2.1 = (VC 0 b).2.1 := by
        unfold VC at q2 ⊢
        by_cases hc : hCons b = true
        · rw [if_pos hc] at q2 ⊢
          rw [if_pos hc]
          exact lift_bad _ 1 _ (Nat.le_refl _) (bytes_take (bytes_drop hb _) _) q2 (by omega)
        · rw [if_neg hc] at q2; exact absurd rfl q2
      rw [if_pos (by rw [c.1]; exact q2)] at eb
      rw [eb]
      exact ⟨c.1, by simp only; rw [c.2]⟩
    · rw [if_neg q2] at b0 b5
      by_cases q3 : hSz b + hLen b < (b.length : Int)
      · rw [if_pos q3] at b5; exact absurd rfl b5
      · rw [if_neg q3] at b0; exact absurd rfl b0
  have hgood : (VC 1 g).1 = 0 := by
    rw [t4] at hd
    simp only at hd
    unfold VC at t2 hd ⊢
    by_cases hc : hCons g = true
    · rw [if_pos hc] at t2 hd ⊢
      exact congrArg Prod.fst (lift_ok _ (0 + 1) _ (Nat.le_refl _) (bytes_take (bytes_drop hg _) _) t2 (by omega))
    · rw [if_neg hc]
  have hV : VV 1 (g ++ b) = ((T b).1, (g.length : Int) + (T b).2.1, 0) := by
    have hx := hd_ext g b hg hE.2.1
    have eg := VV_cons 1 (g ++ b) hgb (by simp [gn])
    rw [hdc_ext 1 g b hg (by rw [hdc_lift 0 (by decide)]; exact t1), if_neg (by decide), VC_ext 1 g b hg hE.2.1 (by omega), hgood, if_neg (by decide), hx.2.2.2.2.1, hx.2.2.2.2.2, t3, Int.toNat_natCast, List.drop_left, if_pos (by rw [hbad.1]; exact b0), hbad.1, hbad.2] at eg
    exact eg
  unfold T
  rw [if_neg (by rw [e]; decide), hVC, hV]
  simp only
  rw [if_pos b0, e6]
  rfl
theorem I_j1 (k : Nat) (hk : 100 ≤ k) (g b : List Int) (p e : Int) : sobriquetlaw02_WellInside.j1 k g b p e true = some true := by
  obtain ⟨k, rfl⟩ : ∃ m, k = m + 1 := ⟨k - 1, by omega⟩
  rw [sobriquetlaw02_WellInside.j1, if_pos rfl]
  have := wakes_ok k
  by_cases h : 100 ≤ k
  · rw [this h]; rfl
  · have hk' : k = 99 := by omega
    subst hk'
    rw [show sobriquetlaw02_wakes.f 99 = some true from by decide +kernel]; rfl
theorem WellInside : sobriquetlaw02_WellInside.Pure := by
  intro g b _ _ hg0 _ _ hb0
  have hg := wfu8 hg0
  have hb := wfu8 hb0
  refine ⟨6000000000, ?_⟩
  have J0 : sobriquetlaw02_WellInside.j0 6000000000 g b true = some true := by
    rw [show (6000000000 : Nat) = 5999999999 + 1 from rfl, sobriquetlaw02_WellInside.j0, if_pos rfl]
  unfold sobriquetlaw02_WellInside.f
  by_cases c1 : (g.length : Int) > 200
  · rw [if_pos c1, J0]
  rw [if_neg c1]
  by_cases c2 : (b.length : Int) > 58
  · rw [dec_t _ c2, J0]
  rw [dec_f _ c2, show (6000000000 : Nat) = 5999999999 + 1 from rfl, sobriquetlaw02_WellInside.j0, if_neg (by decide), mCheck g (by omega) hg _ (by decide), mDepth g (by omega) hg _ (by decide), mCheck b (by omega) hb _ (by decide)]
  simp only [Option.bind_some]
  have eC : ∀ l : List Int, (if (T l).1 = 0 then ((0 : Int), (0 : Int)) else ((T l).2.1, (T l).1)).2 = (T l).1 := by
    intro l
    by_cases q : (T l).1 = 0
    · rw [if_pos q, q]
    · rw [if_neg q]
  rw [eC g, eC b]
  by_cases h1 : (T g).1 = 0
  · rw [if_pos h1, if_pos h1]
    simp only
    by_cases h2 : (T g).2.2 ≥ 32
    · rw [if_pos h2]; exact I_j1 _ (by decide) _ _ _ _
    rw [if_neg h2]
    by_cases h3 : (T b).1 = 0
    · rw [if_pos h3, I_j1 _ (by decide)]
    rw [if_neg h3]
    by_cases h4 : (T b).1 = 5
    · rw [if_pos h4]; exact I_j1 _ (by decide) _ _ _ _
    rw [if_neg h4]
    by_cases h5 : (T b).1 = 6
    · rw [if_pos h5]; exact I_j1 _ (by decide) _ _ _ _
    rw [if_neg h5]
    by_cases h6 : b = []
    · rw [show ((b.length : Int) == 0) = true by rw [h6]; rfl]; exact I_j1 _ (by decide) _ _ _ _
    have hpos : 0 < b.length := by cases b with | nil => exact absurd rfl h6 | cons => simp
    have b0 : (((b.length : Nat) : Int) == 0) = false := beq_eq_false_iff_ne.mpr (by omega)
    rw [b0, show (5999999999 : Nat) = 5999999998 + 1 from rfl, sobriquetlaw02_WellInside.j1, if_neg (by decide), Twin_f g (by omega)]
    simp only [Option.bind_some]
    have ok : okH 0 16 ((g ++ b).length : Int) := ⟨by decide, by decide, by decide, by decide, by omega, by rw [List.length_append]; omega⟩
    rw [if_pos (by omega), rWrap_f _ (by decide) 0 16 true (g ++ b) (by rw [List.length_append]; omega) ok]
    simp only [Option.bind_some]
    have hEl := encH_len 0 16 true ((g ++ b).length : Int) ok
    have hby : ∀ x ∈ encH 0 16 true ((g ++ b).length : Int) ++ (g ++ b), 0 ≤ x ∧ x < 256 := by
      intro x hx
      rcases List.mem_append.mp hx with q | q
      · exact encH_b _ _ _ _ ok x q
      · exact (List.mem_append.mp q).elim (hg x) (hb x)
    have hlen : (encH 0 16 true ((g ++ b).length : Int) ++ (g ++ b)).length ≤ 1000000 := by have q : (g ++ b).length = g.length + b.length := List.length_append; rw [List.length_append]; omega
    have hR : tlv_Read.f 5999999998 (encH 0 16 true ((g ++ b).length : Int) ++ (g ++ b)) = some (0, 16, true, ((g ++ b).length : Int), ((encH 0 16 true ((g ++ b).length : Int)).length : Int), 0) := by
      show Go.Proofs.Ytogbpdmncnldhaa.Base.tlv_Read.f _ _ = _
      rw [read_f _ hlen hby _ (by decide), readH_enc 0 16 true _ ok]
    have hT := T_inside g b hg hb h1 (by omega) (by omega) (by omega) h3 h4 h6
    rw [hR, mCheck _ hlen hby _ (by decide), hT]
    simp only [Option.bind_some, if_true]
    have off : 0 ≤ (T b).2.1 ∧ (T b).2.1 ≤ 1000 := T_off b hb (by omega)
    rw [if_neg h3]
    simp only [if_true]
    rw [if_neg h3]
    simp only
    rw [w64 (x := ((encH 0 16 true ((g ++ b).length : Int)).length : Int) + (g.length : Int)) (by omega) (by omega), w64 (by omega) (by omega), if_pos (by omega), wakes_ok _ (by decide)]
    rfl
  · rw [if_neg h1]; exact I_j1 _ (by decide) _ _ _ _

end Go.Proofs.Ytogbpdmncnldhaa.Pure
