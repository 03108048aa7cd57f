/- WellForms: of each class and tag a value without content is accepted, or refused as the rules for constructed values say. -/
import Derived.Test.YtogbpdmncnldhaaMWellFormsx2
namespace Go.Proofs.Ytogbpdmncnldhaa.Pure
open Go.RowKit Go.Proofs.Ytogbpdmncnldhaa.MWellForms Go.Proofs.YtogbpdmncnldhaaW.PrintWords Go.Proofs.YtogbpdmncnldhaaW.PrintLast
set_option linter.unusedVariables false
set_option linter.unusedSimpArgs false
set_option maxHeartbeats 1000000

open Go.Proofs.Ytogbpdmncnldhaa.Base hiding well_Check.f well_Check.mono well_Check.calls well_Depth.f well_Depth.mono well_Depth.calls well_Parts.f well_Parts.mono well_Parts.calls tlv_Read.f tlv_Read.mono tlv_Read.calls bytes_Clone.f bytes_Clone.calls tlv_One.f tlv_One.mono tlv_One.calls sobriquetref01_septets.f sobriquetref01_septets.l0 sobriquetref01_septets.mono
theorem mCheck (l : List Int) (hl : l.length ≤ 1000000) (hb : ∀ x ∈ l, 0 ≤ x ∧ x < 256) (k : Nat) (hk : 5000000 ≤ k) : well_Check.f k l = some (if (T l).1 = 0 then (0, 0) else ((T l).2.1, (T l).1)) := Check_f l hl hb k hk
theorem mDepth (l : List Int) (hl : l.length ≤ 1000000) (hb : ∀ x ∈ l, 0 ≤ x ∧ x < 256) (k : Nat) (hk : 5000000 ≤ k) : well_Depth.f k l = some (if (T l).1 = 0 then ((T l).2.2, 0) else (0, (T l).1)) := Depth_f l hl hb k hk
theorem wakes_ok (k : Nat) (hk : 100 ≤ k) : sobriquetlaw02_wakes.f k = some true := at_rounds sobriquetlaw02_wakes.mono hk (by decide +kernel)

theorem u64_nn (x : Int) : 0 ≤ IntKind.u64.wrap x ∧ IntKind.u64.wrap x < 18446744073709551616 := by
  have e : IntKind.u64.wrap x = x % 18446744073709551616 := by simp [IntKind.wrap, show IntKind.u64.signed = false from rfl, show IntKind.u64.bits = 64 from rfl]
  rw [e]; omega
theorem u64_in (x : Int) (h : 0 ≤ x ∧ x < 18446744073709551616) : IntKind.u64.wrap x = x := by
  have e : IntKind.u64.wrap x = x % 18446744073709551616 := by simp [IntKind.wrap, show IntKind.u64.signed = false from rfl, show IntKind.u64.bits = 64 from rfl]
  rw [e]; omega
theorem umod (x c : Int) (hc : 0 < c) (hc2 : c ≤ 100000000) : ∃ n, wrap64 (Int.tmod (IntKind.u64.wrap x) c) = n ∧ 0 ≤ n ∧ n < c := by
  have h := u64_nn x
  have h1 := Int.emod_nonneg (IntKind.u64.wrap x) (b := c) (by omega)
  have h2 := Int.emod_lt_of_pos (IntKind.u64.wrap x) hc
  refine ⟨_, rfl, ?_, ?_⟩ <;> rw [tmod_nn h.1, w64 (by omega) (by omega)]
  · exact h1
  · exact h2

theorem hd_enc (cls tag : Int) (cons : Bool) (len : Int) (h : okH cls tag len) (t : List Int) : hErr (encH cls tag cons len ++ t) = 0 ∧ hCls (encH cls tag cons len ++ t) = cls ∧ hTag (encH cls tag cons len ++ t) = tag ∧ hCons (encH cls tag cons len ++ t) = cons ∧ hLen (encH cls tag cons len ++ t) = len ∧ hSz (encH cls tag cons len ++ t) = ((encH cls tag cons len).length : Int) := by
  have e := readH_enc cls tag cons len h t
  unfold hErr hCls hTag hCons hLen hSz
  rw [e]
  exact ⟨rfl, rfl, rfl, rfl, rfl, rfl⟩
/-- The head check of a header that is followed by its content. -/
theorem hdc_enc (lv : Nat) (hlv : lv < 32) (cls tag : Int) (cons : Bool) (len : Int) (h : okH cls tag len) (t : List Int) (ht : len ≤ (t.length : Int)) :
    hdc lv (encH cls tag cons len ++ t) = if cls = 0 ∧ tag = 0 then 3 else if rightP cls tag cons = false then 7 else 0 := by
  obtain ⟨e1, e2, e3, e4, e5, e6⟩ := hd_enc cls tag cons len h t
  unfold hdc
  rw [if_neg (by omega), e1, if_neg (by decide), e2, e3, e4, e5, e6]
  split
  · rfl
  · split
    · rfl
    · rw [if_neg (by rw [List.length_append]; omega)]

theorem sept_l0 : ∀ (N k : Nat) (m : Int) (acc : List Int), m.toNat ≤ N → 0 ≤ m → m ≤ 268435455 → acc.length + N ≤ 3000000000 → N < k → sobriquetref01_septets.l0 k m acc = some (contBE m ++ acc) := by
  intro N
  induction N with
  | zero =>
    intro k m acc hm h0 h1 hl hk
    obtain ⟨k, rfl⟩ : ∃ j, k = j + 1 := ⟨k - 1, by omega⟩
    rw [sobriquetref01_septets.l0, if_neg (by omega), contBE_nil m (by omega)]; rfl
  | succ N ih =>
    intro k m acc hm h0 h1 hl hk
    obtain ⟨k, rfl⟩ : ∃ j, k = j + 1 := ⟨k - 1, by omega⟩
    rw [sobriquetref01_septets.l0]
    by_cases hp : m > 0
    · rw [if_pos hp, tmod_nn h0, tdiv_nn h0, w64 (x := 128 + m % 128) (by omega) (by omega), w64 (x := m / 128) (by omega) (by omega), show (128 + m % 128) % 256 = m % 128 + 128 by omega]
      simp only [Option.bind_some]
      rw [if_pos (by simp; omega), ih k (m / 128) _ (by omega) (by omega) (by omega) (by simp; omega) (by omega), contBE_pos m hp, List.append_assoc]
    · rw [if_neg hp, contBE_nil m (by omega)]; rfl
theorem sept_f (k : Nat) (hk : 1000000000 ≤ k) (n : Int) (h0 : 0 ≤ n) (h1 : n ≤ 268435455) : sobriquetref01_septets.f k n = some (contBE (n / 128) ++ [n % 128]) := by
  unfold sobriquetref01_septets.f
  rw [tdiv_nn h0, tmod_nn h0, w64 (by omega) (by omega), show n % 128 % 256 = n % 128 by omega, sept_l0 (n / 128).toNat k (n / 128) _ (Nat.le_refl _) (by omega) (by omega) (by simp; omega) (by omega)]
theorem hb_l0 (b : List Int) (hb : b.length ≤ 1000) : ∀ (N k : Nat) (m : Int) (acc : List Int), m.toNat ≤ N → 0 ≤ m → m ≤ 2147483647 → acc.length + N ≤ 3000000000 → N < k → (byBE m ++ acc).length ≤ 100 → sobriquetref01_HeadBytes.l0 k b acc m = some (b ++ (128 + ((byBE m ++ acc).length : Int)) :: (byBE m ++ acc)) := by
  intro N
  induction N with
  | zero =>
    intro k m acc hm h0 h1 hl hk h100
    obtain ⟨k, rfl⟩ : ∃ j, k = j + 1 := ⟨k - 1, by omega⟩
    rw [byBE_nil m (by omega), List.nil_append] at h100 ⊢
    rw [sobriquetref01_HeadBytes.l0, if_neg (by omega), if_pos (by omega), w64 (by omega) (by omega), show (128 + (acc.length : Int)) % 256 = 128 + (acc.length : Int) by omega]
    simp only [Option.bind_some]
    rw [if_pos (by simp; omega), List.append_assoc]; rfl
  | succ N ih =>
    intro k m acc hm h0 h1 hl hk h100
    obtain ⟨k, rfl⟩ : ∃ j, k = j + 1 := ⟨k - 1, by omega⟩
    by_cases hp : m > 0
    · have e : byBE m ++ acc = byBE (m / 256) ++ ([m % 256] ++ acc) := by rw [byBE_pos m hp, List.append_assoc]
      rw [e] at h100 ⊢
      rw [sobriquetref01_HeadBytes.l0, if_pos hp, tdiv_nn h0, w64 (x := m / 256) (by omega) (by omega)]
      simp only [Option.bind_some]
      rw [if_pos (by simp; omega), ih k (m / 256) _ (by omega) (by omega) (by omega) (by simp; omega) (by omega) h100]
    · rw [byBE_nil m (by omega), List.nil_append] at h100 ⊢
      rw [sobriquetref01_HeadBytes.l0, if_neg (by omega), if_pos (by omega), w64 (by omega) (by omega), show (128 + (acc.length : Int)) % 256 = 128 + (acc.length : Int) by omega]
      simp only [Option.bind_some]
      rw [if_pos (by simp; omega), List.append_assoc]; rfl
theorem HeadBytes_f (k : Nat) (hk : 5000000000 ≤ k) (cls tag : Int) (cons : Bool) (len size : Int) (ok : okH cls tag len) : sobriquetref01_HeadBytes.f k cls tag cons len size = some (encH cls tag cons len) := by
  obtain ⟨h1, h2, h3, h4, h5, h6⟩ := ok
  obtain ⟨k, rfl⟩ : ∃ j, k = j + 2 := ⟨k - 2, by omega⟩
  have hcl := contLE_len (tag / 128) (by omega) (by omega)
  have J1 : ∀ b : List Int, b.length ≤ 1000 → sobriquetref01_HeadBytes.j1 (k + 1) b cls tag cons len size = some (b ++ lenB len) := by
    intro b hb
    rw [sobriquetref01_HeadBytes.j1]
    by_cases c : len < 128
    · have e : lenB len = [len] := by unfold lenB; rw [if_pos c]
      rw [if_pos c, if_pos (by omega), e, show len % 256 = len by omega]
    · have h4' := byBE_len4 len (by omega) h6
      rw [if_neg c, hb_l0 b hb len.toNat k len [] (Nat.le_refl _) h5 h6 (by simp; omega) (by omega) (by simp; omega), lenB_big len c, List.append_nil]
  have J0 : ∀ x, 0 ≤ x → x ≤ 224 → sobriquetref01_HeadBytes.j0 (k + 2) x cls tag cons len size = some ((if tag < 31 then [x + tag] else (x + 31) :: (contBE (tag / 128) ++ [tag % 128])) ++ lenB len) := by
    intro x x0 x1
    rw [sobriquetref01_HeadBytes.j0]
    by_cases t : tag < 31
    · rw [if_pos t, if_pos t, w64 (by omega) (by omega), show (x + tag) % 256 = x + tag by omega, J1 _ (by simp)]
    · rw [if_neg t, if_neg t, sept_f (k + 1) (by omega) tag h3 h4, w64 (by omega) (by omega), show (x + 31) % 256 = x + 31 by omega]
      simp only [Option.bind_some]
      rw [if_pos (by simp [contBE]; omega), J1 _ (by simp [contBE]; omega)]; rfl
  unfold sobriquetref01_HeadBytes.f encH
  cases cons with
  | true => rw [if_pos rfl, if_pos rfl, w64 (x := cls * 64) (by omega) (by omega), w64 (x := cls * 64 + 32) (by omega) (by omega), J0 _ (by omega) (by omega)]
  | false => rw [if_neg (show ¬ (false = true) by decide), if_neg (show ¬ (false = true) by decide), w64 (x := cls * 64) (by omega) (by omega), J0 _ (by omega) (by omega), Int.add_zero]
theorem rWrap_f (k : Nat) (hk : 5000000000 ≤ k) (cls tag : Int) (cons : Bool) (l : List Int) (hl : l.length ≤ 1000000) (ok : okH cls tag l.length) : sobriquetref01_Wrap.f k cls tag cons l = some (encH cls tag cons l.length ++ l) := by
  have := encH_len cls tag cons _ ok
  unfold sobriquetref01_Wrap.f
  rw [HeadBytes_f k hk cls tag cons _ 0 ok]
  simp only [Option.bind_some]
  rw [if_pos (by omega)]

theorem F_j1 (k : Nat) (hk : 200 ≤ k) (e : Int) (b : Bool) (h : e = if b = true then 7 else 0) : sobriquetlaw02_WellForms.j1 k e b = some true := by
  obtain ⟨k, rfl⟩ : ∃ m, k = m + 1 := ⟨k - 1, by omega⟩
  rw [sobriquetlaw02_WellForms.j1]
  cases b with
  | true => rw [if_pos rfl] at h; rw [if_pos rfl, if_pos h, wakes_ok k (by omega)]; rfl
  | false => rw [if_neg (by decide)] at h; rw [if_neg (by decide), if_pos h, wakes_ok k (by omega)]; rfl
theorem T_none (cls tag : Int) (cons : Bool) (h : okH cls tag 0) : (T (encH cls tag cons 0 ++ [])).1 = if cls = 0 ∧ tag = 0 then 3 else if rightP cls tag cons = false then 7 else 0 := by
  obtain ⟨e1, e2, e3, e4, e5, e6⟩ := hd_enc cls tag cons 0 h []
  have e := hdc_enc 0 (by decide) cls tag cons 0 h [] (by simp)
  unfold T
  rw [e]
  by_cases c1 : cls = 0 ∧ tag = 0
  · rw [if_pos c1, if_pos (by decide)]
  rw [if_neg c1]
  by_cases c2 : rightP cls tag cons = false
  · rw [if_pos c2, if_pos (by decide)]
  rw [if_neg c2, if_neg (by decide)]
  have hVC : VC 0 (encH cls tag cons 0 ++ []) = (0, 0, 0) := by
    unfold VC
    rw [e4, e5]
    split
    · simp [VV_nil]
    · rfl
  rw [hVC, if_neg (by decide), e5, e6]
  simp
theorem WellForms : sobriquetlaw02_WellForms.Pure := by
  intro a0 a1 a2 w0 w1
  obtain ⟨cls, hc, c0, c1⟩ := umod a0 4 (by decide) (by decide)
  obtain ⟨tag, ht, t0, t1⟩ := umod a1 60 (by decide) (by decide)
  refine ⟨6000000000, ?_⟩
  unfold sobriquetlaw02_WellForms.f
  have ok : okH cls tag (([] : List Int).length : Int) := ⟨by omega, by omega, by omega, by omega, by simp, by simp⟩
  have ok0 : okH cls tag 0 := ok
  rw [hc, ht, rWrap_f 6000000000 (by decide) cls tag a2 [] (by simp) ok]
  simp only [Option.bind_some]
  have hlen := encH_len cls tag a2 0 ok0
  have hby : ∀ x ∈ encH cls tag a2 (([] : List Int).length : Int) ++ [], 0 ≤ x ∧ x < 256 := by
    intro x hx
    rw [List.append_nil] at hx
    exact encH_b cls tag a2 0 ok0 x hx
  rw [mCheck _ (by rw [List.append_nil]; show (encH cls tag a2 0).length ≤ _; omega) hby 6000000000 (by decide)]
  have hT : (T (encH cls tag a2 (([] : List Int).length : Int) ++ [])).1 = if cls = 0 ∧ tag = 0 then 3 else if rightP cls tag a2 = false then 7 else 0 := T_none cls tag a2 ok0
  generalize T (encH cls tag a2 (([] : List Int).length : Int) ++ []) = t at hT
  simp only [Option.bind_some]
  have he : (if t.1 = 0 then ((0 : Int), (0 : Int)) else (t.2.1, t.1)).2 = t.1 := by
    by_cases q : t.1 = 0
    · rw [if_pos q, q]
    · rw [if_neg q]
  rw [he, hT]
  by_cases h0 : cls = 0
  · rw [if_pos h0]
    rw [show (6000000000 : Nat) = 5999999999 + 1 from rfl, sobriquetlaw02_WellForms.j0]
    by_cases h1 : tag = 0
    · rw [if_pos (show ((tag : Int) == 0) = true by rw [h1]; rfl), if_pos (show cls = 0 ∧ tag = 0 from ⟨h0, h1⟩), if_pos (show (3 : Int) = 3 from rfl), wakes_ok _ (by decide)]; rfl
    · have b : ((tag : Int) == 0) = false := beq_eq_false_iff_ne.mpr h1
      rw [b, if_neg (show ¬ (false = true) by decide), if_pos h0, if_neg (show ¬ (cls = 0 ∧ tag = 0) from fun q => h1 q.2)]
      unfold rightP
      by_cases h2 : tag < 31
      · rw [if_pos h2, if_neg (show ¬ (cls ≠ 0 ∨ 31 ≤ tag) by omega)]
        by_cases q8 : tag = 8
        · rw [if_pos q8]; apply F_j1 _ (by decide); subst q8; cases a2 <;> decide
        by_cases q11 : tag = 11
        · rw [if_neg q8, if_pos q11]; apply F_j1 _ (by decide); subst q11; cases a2 <;> decide
        by_cases q16 : tag = 16
        · rw [if_neg q8, if_neg q11, if_pos q16]; apply F_j1 _ (by decide); subst q16; cases a2 <;> decide
        · rw [if_neg q8, if_neg q11, if_neg q16]; apply F_j1 _ (by decide)
          by_cases q17 : tag = 17
          · subst q17; cases a2 <;> decide
          · have b2 : ((tag : Int) == 17) = false := beq_eq_false_iff_ne.mpr q17
            rw [b2, dec_f _ (show ¬ (tag = 8 ∨ tag = 11 ∨ tag = 16 ∨ tag = 17) by omega)]
            cases a2 <;> decide
      · rw [if_neg h2, if_pos (show cls ≠ 0 ∨ 31 ≤ tag by omega)]
        apply F_j1 _ (by decide); decide
  · rw [if_neg h0, show (6000000000 : Nat) = 5999999999 + 1 from rfl, sobriquetlaw02_WellForms.j0, if_neg (show ¬ (false = true) by decide), if_neg h0, if_neg (show ¬ (cls = 0 ∧ tag = 0) from fun q => h0 q.1)]
    unfold rightP
    rw [if_pos (show cls ≠ 0 ∨ 31 ≤ tag from .inl h0)]
    apply F_j1 _ (by decide); decide

end Go.Proofs.Ytogbpdmncnldhaa.Pure
