/- WellCut: no proper prefix of a well-formed value is well formed; with a byte behind it the value is refused with ErrTrailing at its end. -/
import Derived.Test.YtogbpdmncnldhaaMWellCutx1
namespace Go.Proofs.Ytogbpdmncnldhaa.Pure
open Go.RowKit Go.Proofs.Ytogbpdmncnldhaa.MWellCut Go.Proofs.YtogbpdmncnldhaaW.PrintWords Go.Proofs.YtogbpdmncnldhaaW.PrintLast
set_option linter.unusedVariables false
set_option linter.unusedSimpArgs false
set_option maxHeartbeats 1000000

open Go.Proofs.Ytogbpdmncnldhaa.Base hiding well_Check.f well_Check.mono well_Check.calls well_Depth.f well_Depth.mono well_Depth.calls well_Parts.f well_Parts.mono well_Parts.calls tlv_Read.f tlv_Read.mono tlv_Read.calls bytes_Clone.f bytes_Clone.calls tlv_One.f tlv_One.mono tlv_One.calls sobriquetref01_septets.f sobriquetref01_septets.l0 sobriquetref01_septets.mono
theorem mCheck (l : List Int) (hl : l.length ≤ 1000000) (hb : ∀ x ∈ l, 0 ≤ x ∧ x < 256) (k : Nat) (hk : 5000000 ≤ k) : well_Check.f k l = some (if (T l).1 = 0 then (0, 0) else ((T l).2.1, (T l).1)) := Check_f l hl hb k hk
theorem mDepth (l : List Int) (hl : l.length ≤ 1000000) (hb : ∀ x ∈ l, 0 ≤ x ∧ x < 256) (k : Nat) (hk : 5000000 ≤ k) : well_Depth.f k l = some (if (T l).1 = 0 then ((T l).2.2, 0) else (0, (T l).1)) := Depth_f l hl hb k hk
theorem wakes_ok (k : Nat) (hk : 100 ≤ k) : sobriquetlaw02_wakes.f k = some true := at_rounds sobriquetlaw02_wakes.mono hk (by decide +kernel)

theorem u64_nn (x : Int) : 0 ≤ IntKind.u64.wrap x ∧ IntKind.u64.wrap x < 18446744073709551616 := by
  have e : IntKind.u64.wrap x = x % 18446744073709551616 := by simp [IntKind.wrap, show IntKind.u64.signed = false from rfl, show IntKind.u64.bits = 64 from rfl]
  rw [e]; omega
theorem u64_in (x : Int) (h : 0 ≤ x ∧ x < 18446744073709551616) : IntKind.u64.wrap x = x := by
  have e : IntKind.u64.wrap x = x % 18446744073709551616 := by simp [IntKind.wrap, show IntKind.u64.signed = false from rfl, show IntKind.u64.bits = 64 from rfl]
  rw [e]; omega
theorem umod (x c : Int) (hc : 0 < c) (hc2 : c ≤ 100000000) : ∃ n, wrap64 (Int.tmod (IntKind.u64.wrap x) c) = n ∧ 0 ≤ n ∧ n < c := by
  have h := u64_nn x
  have h1 := Int.emod_nonneg (IntKind.u64.wrap x) (b := c) (by omega)
  have h2 := Int.emod_lt_of_pos (IntKind.u64.wrap x) hc
  refine ⟨_, rfl, ?_, ?_⟩ <;> rw [tmod_nn h.1, w64 (by omega) (by omega)]
  · exact h1
  · exact h2

theorem Twin_f (l : List Int) (h : l.length < 140737488355328) : sobriquetkeep_Twin.f l = some l := by
  unfold sobriquetkeep_Twin.f
  rw [if_pos (by simpa using h)]; simp

theorem hd_enc (cls tag : Int) (cons : Bool) (len : Int) (h : okH cls tag len) (t : List Int) : hErr (encH cls tag cons len ++ t) = 0 ∧ hCls (encH cls tag cons len ++ t) = cls ∧ hTag (encH cls tag cons len ++ t) = tag ∧ hCons (encH cls tag cons len ++ t) = cons ∧ hLen (encH cls tag cons len ++ t) = len ∧ hSz (encH cls tag cons len ++ t) = ((encH cls tag cons len).length : Int) := by
  have e := readH_enc cls tag cons len h t
  unfold hErr hCls hTag hCons hLen hSz
  rw [e]
  exact ⟨rfl, rfl, rfl, rfl, rfl, rfl⟩
/-- The head check of a header that is followed by its content. -/
theorem hdc_enc (lv : Nat) (hlv : lv < 32) (cls tag : Int) (cons : Bool) (len : Int) (h : okH cls tag len) (t : List Int) (ht : len ≤ (t.length : Int)) :
    hdc lv (encH cls tag cons len ++ t) = if cls = 0 ∧ tag = 0 then 3 else if rightP cls tag cons = false then 7 else 0 := by
  obtain ⟨e1, e2, e3, e4, e5, e6⟩ := hd_enc cls tag cons len h t
  unfold hdc
  rw [if_neg (by omega), e1, if_neg (by decide), e2, e3, e4, e5, e6]
  split
  · rfl
  · split
    · rfl
    · rw [if_neg (by rw [List.length_append]; omega)]

theorem hd_ext (w t : List Int) (hb : ∀ x ∈ w, 0 ≤ x ∧ x < 256) (h : hErr w = 0) : hErr (w ++ t) = 0 ∧ hCls (w ++ t) = hCls w ∧ hTag (w ++ t) = hTag w ∧ hCons (w ++ t) = hCons w ∧ hLen (w ++ t) = hLen w ∧ hSz (w ++ t) = hSz w := by
  obtain ⟨ok, _, _, _, _, hs, u, hu⟩ := hd_bounds w hb h
  have e := hd_enc (hCls w) (hTag w) (hCons w) (hLen w) ok (u ++ t)
  rw [← List.append_assoc, ← hu, ← hs] at e
  exact e
theorem hdc_ext (lv : Nat) (w t : List Int) (hb : ∀ x ∈ w, 0 ≤ x ∧ x < 256) (h : hdc lv w = 0) : hdc lv (w ++ t) = 0 := by
  have h0 := hdc_ok h
  obtain ⟨e1, e2, e3, e4, e5, e6⟩ := hd_ext w t hb h0.2.1
  unfold hdc
  rw [if_neg (by omega), e1, if_neg (by decide), e2, e3, e4, e5, e6, if_neg h0.2.2.1, if_neg (by rw [h0.2.2.2.1]; decide), if_neg (by rw [List.length_append]; have := h0.2.2.2.2; omega)]
theorem VC_ext (lv : Nat) (w t : List Int) (hb : ∀ x ∈ w, 0 ≤ x ∧ x < 256) (h : hErr w = 0) (hl : hSz w + hLen w ≤ (w.length : Int)) : VC lv (w ++ t) = VC lv w := by
  obtain ⟨e1, e2, e3, e4, e5, e6⟩ := hd_ext w t hb h
  obtain ⟨_, b1, b2, b3, b4, _⟩ := hd_bounds w hb h
  unfold VC
  rw [e4, e5, e6, List.drop_append_of_le_length (by omega), List.take_append_of_le_length (by rw [List.length_drop]; omega)]
theorem T_ok {l : List Int} (hb : ∀ x ∈ l, 0 ≤ x ∧ x < 256) (h : (T l).1 = 0) : hdc 0 l = 0 ∧ (VC 0 l).1 = 0 ∧ hSz l + hLen l = (l.length : Int) ∧ T l = (0, (l.length : Int), max 1 (VC 0 l).2.2) := by
  unfold T at h
  by_cases h1 : hdc 0 l ≠ 0
  · rw [if_pos h1] at h; exact absurd h h1
  rw [if_neg h1] at h
  by_cases h2 : (VC 0 l).1 ≠ 0
  · rw [if_pos h2] at h; exact absurd h h2
  rw [if_neg h2] at h
  have h0 := hdc_ok (Decidable.of_not_not h1)
  have h5 := h0.2.2.2.2
  by_cases h3 : hSz l + hLen l < (l.length : Int)
  · rw [if_pos h3] at h; cases h
  refine ⟨Decidable.of_not_not h1, Decidable.of_not_not h2, by omega, ?_⟩
  unfold T
  rw [if_neg h1, if_neg h2, if_neg h3, show hSz l + hLen l = (l.length : Int) by omega]
theorem T_ext {l t : List Int} (hb : ∀ x ∈ l, 0 ≤ x ∧ x < 256) (h : (T l).1 = 0) (ht : 0 < t.length) : T (l ++ t) = (5, (l.length : Int), max 1 (VC 0 l).2.2) := by
  obtain ⟨h1, h2, h3, _⟩ := T_ok hb h
  have h0 := hdc_ok h1
  obtain ⟨e1, e2, e3, e4, e5, e6⟩ := hd_ext l t hb h0.2.1
  unfold T
  rw [if_neg (by rw [hdc_ext 0 l t hb h1]; decide), VC_ext 0 l t hb h0.2.1 (by omega), if_neg (by rw [h2]; decide), e5, e6, h3, if_pos (by rw [List.length_append]; omega)]

theorem T_empty : (T []).1 ≠ 0 := by
  unfold T hdc hErr readH
  simp
theorem Cut_end (k : Nat) (hk : 6000000 ≤ k) (l0 : List Int) (a1 a2 e : Int) (he : e ≠ 0) : sobriquetlaw02_WellCut.j0 k l0 a1 a2 e true = some true := by
  obtain ⟨k, rfl⟩ : ∃ m, k = m + 1 := ⟨k - 1, by omega⟩
  rw [sobriquetlaw02_WellCut.j0, if_pos rfl, if_neg he, wakes_ok k (by omega)]; rfl
theorem WellCut : sobriquetlaw02_WellCut.Pure := by
  intro l0 a1 a2 _ _ hb0 w1 w2
  have hb := wfu8 hb0
  have hb2 : 0 ≤ a2 ∧ a2 < 256 := wfu8 (xs := [a2]) (fun x hx => by rw [List.mem_singleton.mp hx]; exact w2) a2 (by simp)
  by_cases h7 : (l0.length : Int) > 700
  · exact ⟨0, by unfold sobriquetlaw02_WellCut.f; rw [if_pos h7]⟩
  refine ⟨6000000000, ?_⟩
  unfold sobriquetlaw02_WellCut.f
  rw [if_neg h7, mCheck l0 (by omega) hb 6000000000 (by decide)]
  simp only [Option.bind_some]
  by_cases h0 : (T l0).1 = 0
  · rw [if_pos h0]
    simp only [if_true]
    have hne : l0 ≠ [] := fun q => T_empty (q ▸ h0)
    have hpos : 0 < l0.length := by cases l0 with | nil => exact absurd rfl hne | cons => simp
    have b0 : (((l0.length : Nat) : Int) == 0) = false := beq_eq_false_iff_ne.mpr (by omega)
    rw [b0, show (6000000000 : Nat) = 5999999999 + 1 from rfl, sobriquetlaw02_WellCut.j0, if_neg (by decide), u64_in _ (by omega), if_neg (by omega)]
    obtain ⟨n, hn, n0, n1⟩ := umod a1 (l0.length : Int) (by omega) (by omega)
    rw [hn, if_pos n0, if_pos (by omega), mCheck _ (by rw [List.length_take]; omega) (bytes_take hb _) _ (by decide), Twin_f l0 (by omega)]
    simp only [Option.bind_some]
    rw [if_pos (by omega), mCheck (l0 ++ [a2]) (by rw [List.length_append]; simp; omega) (by
      intro x hx
      rcases List.mem_append.mp hx with q | q
      · exact hb x q
      · rw [List.mem_singleton.mp q]; exact hb2) _ (by decide), T_ext hb h0 (by simp)]
    simp only [Option.bind_some]
    have hp : (T (l0.take n.toNat)).1 ≠ 0 := by
      intro q
      have e := T_ext (t := l0.drop n.toNat) (bytes_take hb _) q (by rw [List.length_drop]; omega)
      rw [List.take_append_drop] at e
      rw [e] at h0
      cases h0
    rw [if_neg hp]
    simp only
    rw [if_neg hp, if_neg (show ¬ ((5 : Int) = 0) by decide)]
    simp only [if_true]
    rw [wakes_ok _ (by decide)]; rfl
  · rw [if_neg h0]
    simp only
    rw [if_neg h0]
    exact Cut_end 6000000000 (by decide) l0 a1 a2 _ h0

end Go.Proofs.Ytogbpdmncnldhaa.Pure
