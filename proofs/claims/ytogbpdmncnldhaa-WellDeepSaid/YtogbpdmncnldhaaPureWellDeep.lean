/- WellDeep: nesting as deep as may be is well formed; one level more is refused with ErrDepth where the innermost permitted content begins. -/
import Derived.Test.YtogbpdmncnldhaaMWellDeepx3
namespace Go.Proofs.Ytogbpdmncnldhaa.Pure
open Go.RowKit Go.Proofs.Ytogbpdmncnldhaa.MWellDeep Go.Proofs.YtogbpdmncnldhaaW.PrintWords Go.Proofs.YtogbpdmncnldhaaW.PrintLast
set_option linter.unusedVariables false
set_option linter.unusedSimpArgs false
set_option maxHeartbeats 1000000

open Go.Proofs.Ytogbpdmncnldhaa.Base hiding well_Check.f well_Check.mono well_Check.calls well_Depth.f well_Depth.mono well_Depth.calls well_Parts.f well_Parts.mono well_Parts.calls tlv_Read.f tlv_Read.mono tlv_Read.calls bytes_Clone.f bytes_Clone.calls tlv_One.f tlv_One.mono tlv_One.calls sobriquetref01_septets.f sobriquetref01_septets.l0 sobriquetref01_septets.mono
theorem mCheck (l : List Int) (hl : l.length ≤ 1000000) (hb : ∀ x ∈ l, 0 ≤ x ∧ x < 256) (k : Nat) (hk : 5000000 ≤ k) : well_Check.f k l = some (if (T l).1 = 0 then (0, 0) else ((T l).2.1, (T l).1)) := Check_f l hl hb k hk
theorem mDepth (l : List Int) (hl : l.length ≤ 1000000) (hb : ∀ x ∈ l, 0 ≤ x ∧ x < 256) (k : Nat) (hk : 5000000 ≤ k) : well_Depth.f k l = some (if (T l).1 = 0 then ((T l).2.2, 0) else (0, (T l).1)) := Depth_f l hl hb k hk
theorem wakes_ok (k : Nat) (hk : 100 ≤ k) : sobriquetlaw02_wakes.f k = some true := at_rounds sobriquetlaw02_wakes.mono hk (by decide +kernel)

theorem u64_nn (x : Int) : 0 ≤ IntKind.u64.wrap x ∧ IntKind.u64.wrap x < 18446744073709551616 := by
  have e : IntKind.u64.wrap x = x % 18446744073709551616 := by simp [IntKind.wrap, show IntKind.u64.signed = false from rfl, show IntKind.u64.bits = 64 from rfl]
  rw [e]; omega
theorem u64_in (x : Int) (h : 0 ≤ x ∧ x < 18446744073709551616) : IntKind.u64.wrap x = x := by
  have e : IntKind.u64.wrap x = x % 18446744073709551616 := by simp [IntKind.wrap, show IntKind.u64.signed = false from rfl, show IntKind.u64.bits = 64 from rfl]
  rw [e]; omega
theorem umod (x c : Int) (hc : 0 < c) (hc2 : c ≤ 100000000) : ∃ n, wrap64 (Int.tmod (IntKind.u64.wrap x) c) = n ∧ 0 ≤ n ∧ n < c := by
  have h := u64_nn x
  have h1 := Int.emod_nonneg (IntKind.u64.wrap x) (b := c) (by omega)
  have h2 := Int.emod_lt_of_pos (IntKind.u64.wrap x) hc
  refine ⟨_, rfl, ?_, ?_⟩ <;> rw [tmod_nn h.1, w64 (by omega) (by omega)]
  · exact h1
  · exact h2

theorem hd_enc (cls tag : Int) (cons : Bool) (len : Int) (h : okH cls tag len) (t : List Int) : hErr (encH cls tag cons len ++ t) = 0 ∧ hCls (encH cls tag cons len ++ t) = cls ∧ hTag (encH cls tag cons len ++ t) = tag ∧ hCons (encH cls tag cons len ++ t) = cons ∧ hLen (encH cls tag cons len ++ t) = len ∧ hSz (encH cls tag cons len ++ t) = ((encH cls tag cons len).length : Int) := by
  have e := readH_enc cls tag cons len h t
  unfold hErr hCls hTag hCons hLen hSz
  rw [e]
  exact ⟨rfl, rfl, rfl, rfl, rfl, rfl⟩
/-- The head check of a header that is followed by its content. -/
theorem hdc_enc (lv : Nat) (hlv : lv < 32) (cls tag : Int) (cons : Bool) (len : Int) (h : okH cls tag len) (t : List Int) (ht : len ≤ (t.length : Int)) :
    hdc lv (encH cls tag cons len ++ t) = if cls = 0 ∧ tag = 0 then 3 else if rightP cls tag cons = false then 7 else 0 := by
  obtain ⟨e1, e2, e3, e4, e5, e6⟩ := hd_enc cls tag cons len h t
  unfold hdc
  rw [if_neg (by omega), e1, if_neg (by decide), e2, e3, e4, e5, e6]
  split
  · rfl
  · split
    · rfl
    · rw [if_neg (by rw [List.length_append]; omega)]

theorem sept_l0 : ∀ (N k : Nat) (m : Int) (acc : List Int), m.toNat ≤ N → 0 ≤ m → m ≤ 268435455 → acc.length + N ≤ 3000000000 → N < k → sobriquetref01_septets.l0 k m acc = some (contBE m ++ acc) := by
  intro N
  induction N with
  | zero =>
    intro k m acc hm h0 h1 hl hk
    obtain ⟨k, rfl⟩ : ∃ j, k = j + 1 := ⟨k - 1, by omega⟩
    rw [sobriquetref01_septets.l0, if_neg (by omega), contBE_nil m (by omega)]; rfl
  | succ N ih =>
    intro k m acc hm h0 h1 hl hk
    obtain ⟨k, rfl⟩ : ∃ j, k = j + 1 := ⟨k - 1, by omega⟩
    rw [sobriquetref01_septets.l0]
    by_cases hp : m > 0
    · rw [if_pos hp, tmod_nn h0, tdiv_nn h0, w64 (x := 128 + m % 128) (by omega) (by omega), w64 (x := m / 128) (by omega) (by omega), show (128 + m % 128) % 256 = m % 128 + 128 by omega]
      simp only [Option.bind_some]
      rw [if_pos (by simp; omega), ih k (m / 128) _ (by omega) (by omega) (by omega) (by simp; omega) (by omega), contBE_pos m hp, List.append_assoc]
    · rw [if_neg hp, contBE_nil m (by omega)]; rfl
theorem sept_f (k : Nat) (hk : 1000000000 ≤ k) (n : Int) (h0 : 0 ≤ n) (h1 : n ≤ 268435455) : sobriquetref01_septets.f k n = some (contBE (n / 128) ++ [n % 128]) := by
  unfold sobriquetref01_septets.f
  rw [tdiv_nn h0, tmod_nn h0, w64 (by omega) (by omega), show n % 128 % 256 = n % 128 by omega, sept_l0 (n / 128).toNat k (n / 128) _ (Nat.le_refl _) (by omega) (by omega) (by simp; omega) (by omega)]
theorem hb_l0 (b : List Int) (hb : b.length ≤ 1000) : ∀ (N k : Nat) (m : Int) (acc : List Int), m.toNat ≤ N → 0 ≤ m → m ≤ 2147483647 → acc.length + N ≤ 3000000000 → N < k → (byBE m ++ acc).length ≤ 100 → sobriquetref01_HeadBytes.l0 k b acc m = some (b ++ (128 + ((byBE m ++ acc).length : Int)) :: (byBE m ++ acc)) := by
  intro N
  induction N with
  | zero =>
    intro k m acc hm h0 h1 hl hk h100
    obtain ⟨k, rfl⟩ : ∃ j, k = j + 1 := ⟨k - 1, by omega⟩
    rw [byBE_nil m (by omega), List.nil_append] at h100 ⊢
    rw [sobriquetref01_HeadBytes.l0, if_neg (by omega), if_pos (by omega), w64 (by omega) (by omega), show (128 + (acc.length : Int)) % 256 = 128 + (acc.length : Int) by omega]
    simp only [Option.bind_some]
    rw [if_pos (by simp; omega), List.append_assoc]; rfl
  | succ N ih =>
    intro k m acc hm h0 h1 hl hk h100
    obtain ⟨k, rfl⟩ : ∃ j, k = j + 1 := ⟨k - 1, by omega⟩
    by_cases hp : m > 0
    · have e : byBE m ++ acc = byBE (m / 256) ++ ([m % 256] ++ acc) := by rw [byBE_pos m hp, List.append_assoc]
      rw [e] at h100 ⊢
      rw [sobriquetref01_HeadBytes.l0, if_pos hp, tdiv_nn h0, w64 (x := m / 256) (by omega) (by omega)]
      simp only [Option.bind_some]
      rw [if_pos (by simp; omega), ih k (m / 256) _ (by omega) (by omega) (by omega) (by simp; omega) (by omega) h100]
    · rw [byBE_nil m (by omega), List.nil_append] at h100 ⊢
      rw [sobriquetref01_HeadBytes.l0, if_neg (by omega), if_pos (by omega), w64 (by omega) (by omega), show (128 + (acc.length : Int)) % 256 = 128 + (acc.length : Int) by omega]
      simp only [Option.bind_some]
      rw [if_pos (by simp; omega), List.append_assoc]; rfl
theorem HeadBytes_f (k : Nat) (hk : 5000000000 ≤ k) (cls tag : Int) (cons : Bool) (len size : Int) (ok : okH cls tag len) : sobriquetref01_HeadBytes.f k cls tag cons len size = some (encH cls tag cons len) := by
  obtain ⟨h1, h2, h3, h4, h5, h6⟩ := ok
  obtain ⟨k, rfl⟩ : ∃ j, k = j + 2 := ⟨k - 2, by omega⟩
  have hcl := contLE_len (tag / 128) (by omega) (by omega)
  have J1 : ∀ b : List Int, b.length ≤ 1000 → sobriquetref01_HeadBytes.j1 (k + 1) b cls tag cons len size = some (b ++ lenB len) := by
    intro b hb
    rw [sobriquetref01_HeadBytes.j1]
    by_cases c : len < 128
    · have e : lenB len = [len] := by unfold lenB; rw [if_pos c]
      rw [if_pos c, if_pos (by omega), e, show len % 256 = len by omega]
    · have h4' := byBE_len4 len (by omega) h6
      rw [if_neg c, hb_l0 b hb len.toNat k len [] (Nat.le_refl _) h5 h6 (by simp; omega) (by omega) (by simp; omega), lenB_big len c, List.append_nil]
  have J0 : ∀ x, 0 ≤ x → x ≤ 224 → sobriquetref01_HeadBytes.j0 (k + 2) x cls tag cons len size = some ((if tag < 31 then [x + tag] else (x + 31) :: (contBE (tag / 128) ++ [tag % 128])) ++ lenB len) := by
    intro x x0 x1
    rw [sobriquetref01_HeadBytes.j0]
    by_cases t : tag < 31
    · rw [if_pos t, if_pos t, w64 (by omega) (by omega), show (x + tag) % 256 = x + tag by omega, J1 _ (by simp)]
    · rw [if_neg t, if_neg t, sept_f (k + 1) (by omega) tag h3 h4, w64 (by omega) (by omega), show (x + 31) % 256 = x + 31 by omega]
      simp only [Option.bind_some]
      rw [if_pos (by simp [contBE]; omega), J1 _ (by simp [contBE]; omega)]; rfl
  unfold sobriquetref01_HeadBytes.f encH
  cases cons with
  | true => rw [if_pos rfl, if_pos rfl, w64 (x := cls * 64) (by omega) (by omega), w64 (x := cls * 64 + 32) (by omega) (by omega), J0 _ (by omega) (by omega)]
  | false => rw [if_neg (show ¬ (false = true) by decide), if_neg (show ¬ (false = true) by decide), w64 (x := cls * 64) (by omega) (by omega), J0 _ (by omega) (by omega), Int.add_zero]
theorem rWrap_f (k : Nat) (hk : 5000000000 ≤ k) (cls tag : Int) (cons : Bool) (l : List Int) (hl : l.length ≤ 1000000) (ok : okH cls tag l.length) : sobriquetref01_Wrap.f k cls tag cons l = some (encH cls tag cons l.length ++ l) := by
  have := encH_len cls tag cons _ ok
  unfold sobriquetref01_Wrap.f
  rw [HeadBytes_f k hk cls tag cons _ 0 ok]
  simp only [Option.bind_some]
  rw [if_pos (by omega)]

theorem drop_cons_ (l : List Int) (p : Nat) (h : p < l.length) : l.drop p = l[p] :: l.drop (p + 1) := List.drop_eq_getElem_cons h
theorem rt_eq (l : List Int) (hl : l.length ≤ 1000000) (hb : ∀ x ∈ l, 0 ≤ x ∧ x < 256) : ∀ (d k p : Nat) (n : Int), l.length ≤ p + d → 1 ≤ p → d < k → 0 ≤ n → n ≤ 268435455 →
    ∃ q, ref_tag k l p n = some ((tagP (l.drop p) n (decide (p = 1)) p).1, (tagP (l.drop p) n (decide (p = 1)) p).2.1, q) ∧ ((tagP (l.drop p) n (decide (p = 1)) p).2.1 = 0 → q = (tagP (l.drop p) n (decide (p = 1)) p).2.2) := by
  intro d
  induction d with
  | zero =>
    intro k p n hp h1 hk h0 hm
    obtain ⟨k, rfl⟩ : ∃ m, k = m + 1 := ⟨k - 1, by omega⟩
    rw [ref_tag, if_pos (by omega), List.drop_eq_nil_of_le (by omega), tagP]
    exact ⟨p, rfl, fun _ => rfl⟩
  | succ d ih =>
    intro k p n hp h1 hk h0 hm
    obtain ⟨k, rfl⟩ : ∃ m, k = m + 1 := ⟨k - 1, by omega⟩
    by_cases h : p < l.length
    · obtain ⟨b0, b1⟩ := hb l[p] (List.getElem_mem h)
      rw [ref_tag, if_neg (by omega), rd_nat l p h, if_pos ⟨by omega, by omega, b0, b1, h0, hm⟩, drop_cons_ l p h, tagP]
      by_cases c1 : p = 1 ∧ l[p] = 128
      · rw [if_pos (show (p : Int) = 1 ∧ l[p] = 128 from ⟨by omega, c1.2⟩), if_pos (.inl ⟨dec_t _ c1.1, c1.2⟩)]
        exact ⟨_, rfl, fun q => by cases q⟩
      have c1' : ¬ ((p : Int) = 1 ∧ l[p] = 128) := fun q => c1 ⟨by omega, q.2⟩
      rw [if_neg c1']
      by_cases c2 : n * 128 + l[p] % 128 > 268435455
      · rw [if_pos c2, if_pos (.inr c2)]
        exact ⟨_, rfl, fun q => by cases q⟩
      rw [if_neg c2, if_neg (show ¬ ((decide (p = 1) = true ∧ l[p] = 128) ∨ n * 128 + l[p] % 128 > 268435455) from fun q => q.elim (fun q => c1 ⟨of_decide_eq_true q.1, q.2⟩) c2)]
      by_cases c3 : l[p] ≥ 128
      · rw [if_pos c3, if_pos c3]
        have := ih k (p + 1) (n * 128 + l[p] % 128) (by omega) (by omega) (by omega) (by omega) (by omega)
        rw [dec_f _ (show ¬ (p + 1 = 1) by omega)] at this
        exact this
      rw [if_neg c3, if_neg c3]
      by_cases c4 : n * 128 + l[p] % 128 < 31
      · rw [if_pos c4, if_pos c4]
        exact ⟨_, rfl, fun q => by cases q⟩
      · rw [if_neg c4, if_neg c4]
        exact ⟨_, rfl, fun _ => rfl⟩
    · rw [ref_tag, if_pos (by omega), List.drop_eq_nil_of_le (by omega), tagP]
      exact ⟨p, rfl, fun _ => rfl⟩
def B256 : Nat → Int
  | 0 => 1
  | 1 => 256
  | 2 => 65536
  | 3 => 16777216
  | _ => 4294967296
theorem rl_eq (l : List Int) (hl : l.length ≤ 1000000) (hb : ∀ x ∈ l, 0 ≤ x ∧ x < 256) (M : Nat) (hM : M ≤ 4) : ∀ (d k i p : Nat) (n : Int), i + d = M → d < k → 0 ≤ n → n < B256 i →
    ∃ q, ref_lenL k l M i p n = some ((lenL d (l.drop p) n (decide (i = 0)) p).1, (lenL d (l.drop p) n (decide (i = 0)) p).2.1, q) ∧ ((lenL d (l.drop p) n (decide (i = 0)) p).2.1 = 0 → q = (lenL d (l.drop p) n (decide (i = 0)) p).2.2) := by
  intro d
  induction d with
  | zero =>
    intro k i p n hi hk h0 hn
    obtain ⟨k, rfl⟩ : ∃ m, k = m + 1 := ⟨k - 1, by omega⟩
    rw [ref_lenL, if_neg (by omega), lenL]
    by_cases c1 : n > 2147483647
    · rw [if_pos c1, if_pos c1]; exact ⟨_, rfl, fun q => by cases q⟩
    by_cases c2 : n < 128
    · rw [if_neg c1, if_pos c2, if_neg c1, if_pos c2]; exact ⟨_, rfl, fun q => by cases q⟩
    · rw [if_neg c1, if_neg c2, if_neg c1, if_neg c2]; exact ⟨_, rfl, fun _ => rfl⟩
  | succ d ih =>
    intro k i p n hi hk h0 hn
    obtain ⟨k, rfl⟩ : ∃ m, k = m + 1 := ⟨k - 1, by omega⟩
    by_cases h : p < l.length
    · obtain ⟨b0, b1⟩ := hb l[p] (List.getElem_mem h)
      have hB : n ≤ 16777215 ∧ (∀ x : Int, 0 ≤ x → x < 256 → n * 256 + x < B256 (i + 1)) := by
        have : i = 0 ∨ i = 1 ∨ i = 2 ∨ i = 3 := by omega
        rcases this with rfl | rfl | rfl | rfl <;> simp only [B256] at hn ⊢ <;> exact ⟨by omega, fun x _ _ => by omega⟩
      rw [ref_lenL, if_pos (by omega), if_neg (by omega), rd_nat l p h, if_pos ⟨by omega, by omega, b0, b1, h0, by omega, by omega, by omega⟩, drop_cons_ l p h, lenL]
      by_cases c1 : i = 0 ∧ l[p] = 0
      · rw [if_pos (show (i : Int) = 0 ∧ l[p] = 0 from ⟨by omega, c1.2⟩), if_pos (show decide (i = 0) = true ∧ l[p] = 0 from ⟨dec_t _ c1.1, c1.2⟩)]
        exact ⟨_, rfl, fun q => by cases q⟩
      rw [if_neg (show ¬ ((i : Int) = 0 ∧ l[p] = 0) from fun q => c1 ⟨by omega, q.2⟩), if_neg (show ¬ (decide (i = 0) = true ∧ l[p] = 0) from fun q => c1 ⟨of_decide_eq_true q.1, q.2⟩)]
      have := ih k (i + 1) (p + 1) (n * 256 + l[p]) (by omega) (by omega) (by omega) (hB.2 _ b0 b1)
      rw [dec_f _ (show ¬ (i + 1 = 0) by omega)] at this
      exact this
    · rw [ref_lenL, if_pos (by omega), if_pos (by omega), List.drop_eq_nil_of_le (by omega), lenL]
      exact ⟨p, rfl, fun q => by cases q⟩
theorem rn_eq (l : List Int) (hl : l.length ≤ 1000000) (hb : ∀ x ∈ l, 0 ≤ x ∧ x < 256) (k p : Nat) (hk : 10 ≤ k) :
    ∃ q, ref_len k l p = some ((lenP (l.drop p) p).1, (lenP (l.drop p) p).2.1, q) ∧ ((lenP (l.drop p) p).2.1 = 0 → q = (lenP (l.drop p) p).2.2) := by
  unfold ref_len
  by_cases h : p < l.length
  · obtain ⟨b0, b1⟩ := hb l[p] (List.getElem_mem h)
    rw [if_neg (by omega), rd_nat l p h, if_pos ⟨by omega, by omega, b0, b1⟩, drop_cons_ l p h, lenP]
    by_cases c1 : l[p] < 128
    · rw [if_pos c1, if_pos c1]; exact ⟨_, rfl, fun _ => rfl⟩
    by_cases c2 : l[p] = 128
    · rw [if_neg c1, if_pos c2, if_neg c1, if_pos c2]; exact ⟨_, rfl, fun q => by cases q⟩
    by_cases c3 : l[p] - 128 > 4
    · rw [if_neg c1, if_neg c2, if_pos c3, if_neg c1, if_neg c2, if_pos c3]; exact ⟨_, rfl, fun q => by cases q⟩
    rw [if_neg c1, if_neg c2, if_neg c3, if_neg c1, if_neg c2, if_neg c3]
    have := rl_eq l hl hb (l[p] - 128).toNat (by omega) (l[p] - 128).toNat k 0 (p + 1) 0 (by omega) (by omega) (Int.le_refl _) (by decide)
    rw [Int.toNat_of_nonneg (by omega)] at this
    exact this
  · rw [if_pos (by omega), List.drop_eq_nil_of_le (by omega), lenP]
    exact ⟨p, rfl, fun q => by cases q⟩
theorem ref_f (l : List Int) (hl : l.length ≤ 1000000) (hb : ∀ x ∈ l, 0 ≤ x ∧ x < 256) (k : Nat) (hk : 3000000 ≤ k) : sobriquetref01_Read.f k l = some (readH l) := by
  unfold sobriquetref01_Read.f
  match l, hl, hb with
  | [], _, _ => rfl
  | c :: t, hl, hb =>
    obtain ⟨b0, b1⟩ := hb c (by simp)
    have r0 : rd (c :: t) 0 = c := rfl
    rw [if_neg (by simp), r0, if_pos ⟨b0, b1, by omega⟩, readH]
    have hT : ∃ q, (if c % 32 = 31 then ref_tag k (c :: t) 1 0 else some (c % 32, 0, 1)) = some ((tagQ c t).1, (tagQ c t).2.1, q) ∧ ((tagQ c t).2.1 = 0 → q = (tagQ c t).2.2) := by
      unfold tagQ
      by_cases h : c % 32 = 31
      · rw [if_pos h, if_pos h]
        exact rt_eq (c :: t) hl hb (c :: t).length k 1 0 (by omega) (Nat.le_refl _) (by omega) (Int.le_refl _) (by decide)
      · rw [if_neg h, if_neg h]; exact ⟨1, rfl, fun _ => rfl⟩
    obtain ⟨q, e, hq⟩ := hT
    rw [e]
    simp only [Option.bind_some]
    by_cases h : (tagQ c t).2.1 = 0
    · have hp : 1 ≤ (tagQ c t).2.2 := by
        unfold tagQ
        split
        · exact (tagP_pos t 0 true 1).1
        · simp
      obtain ⟨q2, e2, hq2⟩ := rn_eq (c :: t) hl hb k (tagQ c t).2.2.toNat (by omega)
      rw [Int.toNat_of_nonneg (by omega)] at e2 hq2
      rw [if_pos h, if_pos h, hq h, e2]
      simp only [Option.bind_some]
      by_cases h2 : (lenP ((c :: t).drop (tagQ c t).2.2.toNat) (tagQ c t).2.2).2.1 = 0
      · rw [if_pos h2, if_pos h2, hq2 h2]
        have e3 : (c / 32 % 2 == 1) = decide (c / 32 % 2 = 1) := by
          by_cases z : c / 32 % 2 = 1
          · rw [z]; rfl
          · rw [dec_f _ z]; exact beq_eq_false_iff_ne.mpr z
        rw [e3]
      · rw [if_neg h2, if_neg h2]
    · rw [if_neg h, if_neg h]

def nest (cls tag : Int) : Nat → List Int
  | 0 => []
  | n + 1 => encH cls tag true ((nest cls tag n).length : Int) ++ nest cls tag n
def hsum (cls tag : Int) : Nat → Nat → Nat
  | _, 0 => 0
  | 0, _ + 1 => 0
  | n + 1, m + 1 => (encH cls tag true ((nest cls tag n).length : Int)).length + hsum cls tag n m
/-- A class and a tag under which a value has parts. -/
def okN (cls tag : Int) : Prop := cls = 0 ∧ tag = 16 ∨ 1 ≤ cls ∧ cls ≤ 3 ∧ tag = 5
theorem okN_right {cls tag : Int} (h : okN cls tag) : rightP cls tag true = true ∧ ¬ (cls = 0 ∧ tag = 0) := by
  rcases h with ⟨rfl, rfl⟩ | ⟨h1, h2, rfl⟩
  · exact ⟨by decide, by decide⟩
  · refine ⟨?_, by omega⟩
    unfold rightP
    rw [if_pos (.inl (by omega))]
theorem okN_ok {cls tag : Int} (h : okN cls tag) (n : Int) (h0 : 0 ≤ n) (h1 : n ≤ 100000) : okH cls tag n := by
  rcases h with ⟨rfl, rfl⟩ | ⟨h1, h2, rfl⟩ <;> exact ⟨by omega, by omega, by omega, by omega, by omega, by omega⟩
theorem nest_facts {cls tag : Int} (h : okN cls tag) : ∀ n, n ≤ 50 → (nest cls tag n).length ≤ 20 * n ∧ (∀ x ∈ nest cls tag n, 0 ≤ x ∧ x < 256) := by
  intro n
  induction n with
  | zero => intro _; exact ⟨Nat.le_refl _, fun x hx => absurd hx List.not_mem_nil⟩
  | succ n ih =>
    intro hn
    obtain ⟨a, b⟩ := ih (by omega)
    have ok := okN_ok h ((nest cls tag n).length : Int) (by omega) (by omega)
    have hE := encH_len cls tag true ((nest cls tag n).length : Int) ok
    rw [nest]
    refine ⟨by rw [List.length_append]; omega, fun x hx => ?_⟩
    rcases List.mem_append.mp hx with q | q
    · exact encH_b _ _ _ _ ok x q
    · exact b x q
theorem nest_VC {cls tag : Int} (h : okN cls tag) (n lv : Nat) (hn : n ≤ 49) : VC lv (nest cls tag (n + 1)) = VV (lv + 1) (nest cls tag n) ∧ hSz (nest cls tag (n + 1)) = ((encH cls tag true ((nest cls tag n).length : Int)).length : Int) ∧ hLen (nest cls tag (n + 1)) = ((nest cls tag n).length : Int) ∧ (lv < 32 → hdc lv (nest cls tag (n + 1)) = 0) := by
  obtain ⟨a, b⟩ := nest_facts h n (by omega)
  have ok := okN_ok h ((nest cls tag n).length : Int) (by omega) (by omega)
  obtain ⟨r1, r2⟩ := okN_right h
  obtain ⟨e1, e2, e3, e4, e5, e6⟩ := hd_enc cls tag true ((nest cls tag n).length : Int) ok (nest cls tag n)
  rw [nest]
  refine ⟨?_, e6, e5, fun hlv => ?_⟩
  · unfold VC
    rw [e4, if_pos rfl, e5, e6, Int.toNat_natCast, Int.toNat_natCast, List.drop_left, List.take_length]
  · rw [hdc_enc lv hlv cls tag true _ ok _ (Int.le_refl _), if_neg r2, if_neg (by rw [r1]; decide)]
theorem nest_ne (cls tag : Int) (h : okN cls tag) (n : Nat) (hn : n ≤ 49) : nest cls tag (n + 1) ≠ [] := by
  obtain ⟨a, b⟩ := nest_facts h n (by omega)
  have ok := okN_ok h ((nest cls tag n).length : Int) (by omega) (by omega)
  have hE := encH_len cls tag true ((nest cls tag n).length : Int) ok
  intro q
  have := congrArg List.length q
  rw [nest, List.length_append, List.length_nil] at this
  omega
theorem nest_VV {cls tag : Int} (h : okN cls tag) : ∀ (n lv : Nat), n ≤ 49 → lv ≤ 32 → VV lv (nest cls tag n) = if lv + n ≤ 32 then (0, 0, if n = 0 then 0 else ((lv + n : Nat) : Int)) else (6, (hsum cls tag n (32 - lv) : Int), 0) := by
  intro n
  induction n with
  | zero => intro lv _ hlv; rw [nest, VV_nil, if_pos (by omega), if_pos rfl]
  | succ n ih =>
    intro lv hn hlv
    obtain ⟨c1, c2, c3, c4⟩ := nest_VC h n lv (by omega)
    have hb := (nest_facts h (n + 1) (by omega)).2
    have hne := nest_ne cls tag h n (by omega)
    have hlen : (nest cls tag (n + 1)).length = (encH cls tag true ((nest cls tag n).length : Int)).length + (nest cls tag n).length := by rw [nest, List.length_append]
    have hdrop : (nest cls tag (n + 1)).drop (hSz (nest cls tag (n + 1)) + hLen (nest cls tag (n + 1))).toNat = [] := List.drop_eq_nil_of_le (by rw [c2, c3, hlen]; omega)
    by_cases h32 : lv < 32
    · rw [VV_cons lv _ hb hne, c4 h32, if_neg (by decide), c1, ih (lv + 1) (by omega) (by omega), hdrop, VV_nil]
      by_cases q : lv + (n + 1) ≤ 32
      · rw [if_pos (show lv + 1 + n ≤ 32 by omega), if_pos q, if_neg (fun z => z rfl), if_neg (fun z => z rfl), if_neg (show ¬ (n + 1 = 0) by omega)]
        refine Prod.ext rfl (Prod.ext rfl ?_)
        show max ((lv : Int) + 1) (max (if n = 0 then 0 else ((lv + 1 + n : Nat) : Int)) 0) = ((lv + (n + 1) : Nat) : Int)
        split <;> omega
      · rw [if_neg (show ¬ (lv + 1 + n ≤ 32) by omega), if_neg q, if_pos (show (6 : Int) ≠ 0 by decide)]
        refine Prod.ext rfl (Prod.ext ?_ rfl)
        show hSz (nest cls tag (n + 1)) + (hsum cls tag n (32 - (lv + 1)) : Int) = (hsum cls tag (n + 1) (32 - lv) : Int)
        rw [c2, show 32 - lv = (32 - (lv + 1)) + 1 by omega, hsum]
        omega
    · have hlv2 : lv = 32 := by omega
      subst hlv2
      have h6 : hdc 32 (nest cls tag (n + 1)) = 6 := by unfold hdc; rw [if_pos (Nat.le_refl _)]
      rw [VV_cons 32 _ hb hne, h6, if_pos (by decide), if_neg (by omega)]
      rfl
theorem nest_T {cls tag : Int} (h : okN cls tag) (n : Nat) (hn : n ≤ 48) : T (nest cls tag (n + 1)) = if n + 1 ≤ 32 then (0, ((nest cls tag (n + 1)).length : Int), ((n + 1 : Nat) : Int)) else (6, (hsum cls tag (n + 1) 32 : Int), 0) := by
  obtain ⟨c1, c2, c3, c4⟩ := nest_VC h n 0 (by omega)
  have hlen : (nest cls tag (n + 1)).length = (encH cls tag true ((nest cls tag n).length : Int)).length + (nest cls tag n).length := by rw [nest, List.length_append]
  unfold T
  rw [c4 (by decide), if_neg (by decide), c1, nest_VV h n 1 (by omega) (by decide)]
  by_cases q : n + 1 ≤ 32
  · rw [if_pos (show 1 + n ≤ 32 by omega), if_pos q, if_neg (fun z => z rfl), c2, c3, if_neg (by omega)]
    refine Prod.ext rfl (Prod.ext (by show _ = ((nest cls tag (n + 1)).length : Int); simp only; omega) ?_)
    show max 1 (if n = 0 then 0 else ((1 + n : Nat) : Int)) = ((n + 1 : Nat) : Int)
    split <;> omega
  · rw [if_neg (show ¬ (1 + n ≤ 32) by omega), if_neg q, if_pos (show (6 : Int) ≠ 0 by decide)]
    refine Prod.ext rfl (Prod.ext ?_ rfl)
    show hSz (nest cls tag (n + 1)) + (hsum cls tag n (32 - 1) : Int) = (hsum cls tag (n + 1) 32 : Int)
    rw [c2, show (32 : Nat) = 31 + 1 from rfl, hsum]
    simp
theorem hsum_drop (cls tag : Int) : ∀ (n i : Nat), i ≤ n → (nest cls tag n).drop (hsum cls tag n i) = nest cls tag (n - i) ∧ hsum cls tag n i ≤ (nest cls tag n).length := by
  intro n
  induction n with
  | zero => intro i hi; have : i = 0 := by omega
            subst this; exact ⟨rfl, Nat.le_refl _⟩
  | succ n ih =>
    intro i hi
    match i with
    | 0 => exact ⟨by rw [hsum]; rfl, by rw [hsum]; exact Nat.zero_le _⟩
    | i + 1 =>
      obtain ⟨a, b⟩ := ih i (by omega)
      rw [hsum, nest]
      refine ⟨?_, by rw [List.length_append]; omega⟩
      rw [← List.drop_drop, List.drop_left, a, show n + 1 - (i + 1) = n - i by omega]
theorem hsum_succ (cls tag : Int) : ∀ (n i : Nat), i < n → hsum cls tag n (i + 1) = hsum cls tag n i + (encH cls tag true ((nest cls tag (n - i - 1)).length : Int)).length := by
  intro n
  induction n with
  | zero => intro i hi; omega
  | succ n ih =>
    intro i hi
    match i with
    | 0 => rw [hsum, hsum, hsum, show n + 1 - 0 - 1 = n by omega]; omega
    | i + 1 =>
      rw [hsum, hsum, ih i (by omega), show n + 1 - (i + 1) - 1 = n - i - 1 by omega]
      omega
theorem D_l1 {cls tag : Int} (h : okN cls tag) (n : Nat) (hn : n ≤ 48) (h32 : 32 < n) : ∀ (d i k : Nat), i + d = 32 → 4000000 + d < k → sobriquetlaw02_WellDeep.l1 k (nest cls tag n) (hsum cls tag n 32 : Int) 6 (hsum cls tag n i : Int) (i : Int) = some true := by
  intro d
  induction d with
  | zero =>
    intro i k hi hk
    obtain ⟨k, rfl⟩ : ∃ m, k = m + 1 := ⟨k - 1, by omega⟩
    have e : i = 32 := by omega
    subst e
    rw [sobriquetlaw02_WellDeep.l1, if_neg (by decide), if_pos rfl, if_pos rfl, wakes_ok k (by omega)]; rfl
  | succ d ih =>
    intro i k hi hk
    obtain ⟨k, rfl⟩ : ∃ m, k = m + 1 := ⟨k - 1, by omega⟩
    obtain ⟨nl, nb⟩ := nest_facts h n (by omega)
    obtain ⟨a, b⟩ := hsum_drop cls tag n i (by omega)
    have hm : n - i = (n - i - 1) + 1 := by omega
    obtain ⟨ml, mb⟩ := nest_facts h (n - i) (by omega)
    obtain ⟨m1, _⟩ := nest_facts h (n - i - 1) (by omega)
    have ok := okN_ok h ((nest cls tag (n - i - 1)).length : Int) (by omega) (by omega)
    have hE := encH_len cls tag true ((nest cls tag (n - i - 1)).length : Int) ok
    rw [sobriquetlaw02_WellDeep.l1, if_pos (by omega), if_pos (by omega), if_pos (by omega), Int.toNat_natCast, a, ref_f _ (by omega) mb k (by omega)]
    simp only [Option.bind_some]
    have hr : readH (nest cls tag (n - i)) = (cls, tag, true, ((nest cls tag (n - i - 1)).length : Int), ((encH cls tag true ((nest cls tag (n - i - 1)).length : Int)).length : Int), 0) := by
      rw [hm, nest, show n - i - 1 + 1 - 1 = n - i - 1 by omega]
      exact readH_enc cls tag true _ ok _
    rw [hr]
    simp only [if_true]
    have hs := hsum_succ cls tag n i (by omega)
    rw [w64 (by omega) (by omega), w64_nat (i := i) (n := 40) (by omega) (by omega), show (hsum cls tag n i : Int) + ((encH cls tag true ((nest cls tag (n - i - 1)).length : Int)).length : Int) = (hsum cls tag n (i + 1) : Int) by omega]
    exact ih (i + 1) k (by omega) (by omega)
theorem D_l0 {cls tag : Int} (h : okN cls tag) (n : Nat) (hn : n ≤ 40) (h1 : 1 ≤ n) : ∀ (d i k : Nat), i + d = n → 5500000000 + d < k → sobriquetlaw02_WellDeep.l0 k (n : Int) cls tag (nest cls tag i) (i : Int) = some true := by
  intro d
  induction d with
  | zero =>
    intro i k hi hk
    obtain ⟨k, rfl⟩ : ∃ m, k = m + 1 := ⟨k - 1, by omega⟩
    have e : i = n := by omega
    subst e
    obtain ⟨nl, nb⟩ := nest_facts h i (by omega)
    have hT := nest_T h (i - 1) (by omega)
    rw [show i - 1 + 1 = i by omega] at hT
    rw [sobriquetlaw02_WellDeep.l0, if_neg (by omega), mCheck _ (by omega) nb k (by omega), hT]
    simp only [Option.bind_some]
    by_cases q : i ≤ 32
    · rw [if_pos q, if_pos (by omega), mDepth _ (by omega) nb k (by omega), hT, if_pos q]
      simp only [Option.bind_some, if_true]
      rw [wakes_ok k (by omega)]; rfl
    · rw [if_neg q, if_neg (by omega)]
      simp only
      rw [if_neg (by decide)]
      have z := D_l1 h i (by omega) (by omega) 32 0 k (by omega) (by omega)
      rw [show hsum cls tag i 0 = 0 from by rw [hsum]] at z
      exact z
  | succ d ih =>
    intro i k hi hk
    obtain ⟨k, rfl⟩ : ∃ m, k = m + 1 := ⟨k - 1, by omega⟩
    obtain ⟨nl, nb⟩ := nest_facts h i (by omega)
    have ok := okN_ok h ((nest cls tag i).length : Int) (by omega) (by omega)
    rw [sobriquetlaw02_WellDeep.l0, if_pos (by omega), rWrap_f k (by omega) cls tag true (nest cls tag i) (by omega) ok]
    simp only [Option.bind_some]
    rw [w64_nat (i := i) (n := 50) (by omega) (by omega)]
    exact ih (i + 1) k (by omega) (by omega)
theorem WellDeep : sobriquetlaw02_WellDeep.Pure := by
  intro a0 a1 w0 w1
  obtain ⟨n, hn, n0, n1⟩ := umod a0 40 (by decide) (by decide)
  obtain ⟨cls, hc, c0, c1⟩ := umod a1 4 (by decide) (by decide)
  refine ⟨6000000000, ?_⟩
  unfold sobriquetlaw02_WellDeep.f
  obtain ⟨m, rfl⟩ := Int.eq_ofNat_of_zero_le n0
  rw [hn, hc, w64 (x := 1 + (m : Int)) (by omega) (by omega), show (1 : Int) + (m : Nat) = ((m + 1 : Nat) : Int) by omega]
  have main : ∀ tag, okN cls tag → sobriquetlaw02_WellDeep.j0 6000000000 ((m + 1 : Nat) : Int) cls tag = some true := by
    intro tag ht
    rw [show (6000000000 : Nat) = 5999999999 + 1 from rfl, sobriquetlaw02_WellDeep.j0]
    exact D_l0 ht (m + 1) (by omega) (by omega) (m + 1) 0 _ (by omega) (by omega)
  by_cases h : cls > 0
  · rw [if_pos h]; exact main 5 (.inr ⟨by omega, by omega, rfl⟩)
  · rw [if_neg h]; exact main 16 (.inl ⟨by omega, rfl⟩)

end Go.Proofs.Ytogbpdmncnldhaa.Pure
