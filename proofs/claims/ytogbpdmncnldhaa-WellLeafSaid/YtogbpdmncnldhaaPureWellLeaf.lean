/- WellLeaf: a value without parts, of a class other than 0, is well formed whatever its content; its depth is one, and it has no parts to tell. -/
import Derived.Test.YtogbpdmncnldhaaMWellLeafx2
namespace Go.Proofs.Ytogbpdmncnldhaa.Pure
open Go.RowKit Go.Proofs.Ytogbpdmncnldhaa.MWellLeaf Go.Proofs.YtogbpdmncnldhaaW.PrintWords Go.Proofs.YtogbpdmncnldhaaW.PrintLast
set_option linter.unusedVariables false
set_option linter.unusedSimpArgs false
set_option maxHeartbeats 1000000

open Go.Proofs.Ytogbpdmncnldhaa.Base hiding well_Check.f well_Check.mono well_Check.calls well_Depth.f well_Depth.mono well_Depth.calls well_Parts.f well_Parts.mono well_Parts.calls tlv_Read.f tlv_Read.mono tlv_Read.calls bytes_Clone.f bytes_Clone.calls tlv_One.f tlv_One.mono tlv_One.calls sobriquetref01_septets.f sobriquetref01_septets.l0 sobriquetref01_septets.mono
theorem mCheck (l : List Int) (hl : l.length ≤ 1000000) (hb : ∀ x ∈ l, 0 ≤ x ∧ x < 256) (k : Nat) (hk : 5000000 ≤ k) : well_Check.f k l = some (if (T l).1 = 0 then (0, 0) else ((T l).2.1, (T l).1)) := Check_f l hl hb k hk
theorem mDepth (l : List Int) (hl : l.length ≤ 1000000) (hb : ∀ x ∈ l, 0 ≤ x ∧ x < 256) (k : Nat) (hk : 5000000 ≤ k) : well_Depth.f k l = some (if (T l).1 = 0 then ((T l).2.2, 0) else (0, (T l).1)) := Depth_f l hl hb k hk
theorem wakes_ok (k : Nat) (hk : 100 ≤ k) : sobriquetlaw02_wakes.f k = some true := at_rounds sobriquetlaw02_wakes.mono hk (by decide +kernel)

theorem u64_nn (x : Int) : 0 ≤ IntKind.u64.wrap x ∧ IntKind.u64.wrap x < 18446744073709551616 := by
  have e : IntKind.u64.wrap x = x % 18446744073709551616 := by simp [IntKind.wrap, show IntKind.u64.signed = false from rfl, show IntKind.u64.bits = 64 from rfl]
  rw [e]; omega
theorem u64_in (x : Int) (h : 0 ≤ x ∧ x < 18446744073709551616) : IntKind.u64.wrap x = x := by
  have e : IntKind.u64.wrap x = x % 18446744073709551616 := by simp [IntKind.wrap, show IntKind.u64.signed = false from rfl, show IntKind.u64.bits = 64 from rfl]
  rw [e]; omega
theorem umod (x c : Int) (hc : 0 < c) (hc2 : c ≤ 100000000) : ∃ n, wrap64 (Int.tmod (IntKind.u64.wrap x) c) = n ∧ 0 ≤ n ∧ n < c := by
  have h := u64_nn x
  have h1 := Int.emod_nonneg (IntKind.u64.wrap x) (b := c) (by omega)
  have h2 := Int.emod_lt_of_pos (IntKind.u64.wrap x) hc
  refine ⟨_, rfl, ?_, ?_⟩ <;> rw [tmod_nn h.1, w64 (by omega) (by omega)]
  · exact h1
  · exact h2

theorem Bytes_l0 (a b : List Int) (hl : a.length = b.length) (hm : a.length ≤ 4611686018427387904) : ∀ (d k i : Nat), i + d = a.length → d < k → sobriquetkeep_Bytes.l0 k a b (i : Int) = some (decide (a.drop i = b.drop i)) := by
  intro d
  induction d with
  | zero =>
    intro k i hi hk
    obtain ⟨k, rfl⟩ : ∃ m, k = m + 1 := ⟨k - 1, by omega⟩
    simp only [sobriquetkeep_Bytes.l0]
    rw [if_neg (by omega), List.drop_eq_nil_of_le (by omega), List.drop_eq_nil_of_le (by omega)]
    simp
  | succ d ih =>
    intro k i hi hk
    obtain ⟨k, rfl⟩ : ∃ m, k = m + 1 := ⟨k - 1, by omega⟩
    have ha : i < a.length := by omega
    have hb : i < b.length := by omega
    simp only [sobriquetkeep_Bytes.l0]
    rw [if_pos (by omega), if_pos (by omega), if_pos (by omega), rd_nat a i ha, rd_nat b i hb, w64_nat ha hm, ih k (i + 1) (by omega) (by omega), List.drop_eq_getElem_cons ha, List.drop_eq_getElem_cons hb]
    by_cases h : a[i] = b[i]
    · simp only [h, if_true, List.cons.injEq, true_and]
    · simp only [h, if_false, List.cons.injEq, false_and, decide_false]
theorem Bytes_f (a b : List Int) (k : Nat) (hm : a.length ≤ 4611686018427387904) (hk : a.length < k) : sobriquetkeep_Bytes.f k a b = some (decide (a = b)) := by
  unfold sobriquetkeep_Bytes.f
  by_cases hl : a.length = b.length
  · rw [if_pos (by omega)]
    have := Bytes_l0 a b hl hm a.length k 0 (by omega) hk
    simpa using this
  · rw [if_neg (by omega)]
    have : a ≠ b := fun h => hl (by rw [h])
    simp [this]

theorem bClone_f (l : List Int) (h : l.length ≤ 140737488355328) : Go.Proofs.Ytogbpdmncnldhaa.Base.bytes_Clone.f l = some l := if_pos h
theorem bOne_f (k : Nat) (hk : 3000000 ≤ k) (cls tag : Int) (cons : Bool) (len : Int) (ok : okH cls tag len) (c r : List Int) (hc : (c.length : Int) = len) (hcl : c.length ≤ 1000) (hrl : r.length ≤ 1000) (hcb : ∀ x ∈ c, 0 ≤ x ∧ x < 256) (hrb : ∀ x ∈ r, 0 ≤ x ∧ x < 256) : Go.Proofs.Ytogbpdmncnldhaa.Base.tlv_One.f k ((encH cls tag cons len ++ c) ++ r) = some (cls, tag, cons, len, ((encH cls tag cons len).length : Int), c, r, 0) := by
  have hE := encH_len cls tag cons len ok
  have hb := encH_b cls tag cons len ok
  unfold Go.Proofs.Ytogbpdmncnldhaa.Base.tlv_One.f
  rw [List.append_assoc, read_f _ (by simp; omega) (fun x hx => by
    rcases List.mem_append.mp hx with h | h
    · exact hb x h
    · rcases List.mem_append.mp h with h | h
      · exact hcb x h
      · exact hrb x h) k hk, readH_enc cls tag cons len ok (c ++ r)]
  generalize encH cls tag cons len = E at *
  simp only [Option.bind_some, if_true]
  have e1 : wrap64 (((E ++ (c ++ r)).length : Int) - (E.length : Int)) = (c.length : Int) + r.length := by
    rw [w64 (by simp; omega) (by simp; omega)]; simp; omega
  have e2 : wrap64 ((E.length : Int) + len) = ((E.length + c.length : Nat) : Int) := by
    rw [w64 (by omega) (by omega)]; omega
  have t1 : ((E ++ (c ++ r)).take (E.length + c.length)).drop E.length = c := by
    rw [show E ++ (c ++ r) = (E ++ c) ++ r from (List.append_assoc ..).symm, show E.length + c.length = (E ++ c).length by simp, List.take_left, List.drop_left]
  have t2 : (E ++ (c ++ r)).drop (E.length + c.length) = r := by
    rw [show E ++ (c ++ r) = (E ++ c) ++ r from (List.append_assoc ..).symm, show E.length + c.length = (E ++ c).length by simp, List.drop_left]
  rw [e1, e2, if_neg (by omega), if_pos (by omega), if_pos (by omega), if_pos (by simp only [List.length_append]; omega), Int.toNat_natCast, Int.toNat_natCast, t1, t2, bClone_f c (by omega), bClone_f r (by omega)]
  simp only [Option.bind_some]
  rw [if_pos (by omega)]

theorem hd_enc (cls tag : Int) (cons : Bool) (len : Int) (h : okH cls tag len) (t : List Int) : hErr (encH cls tag cons len ++ t) = 0 ∧ hCls (encH cls tag cons len ++ t) = cls ∧ hTag (encH cls tag cons len ++ t) = tag ∧ hCons (encH cls tag cons len ++ t) = cons ∧ hLen (encH cls tag cons len ++ t) = len ∧ hSz (encH cls tag cons len ++ t) = ((encH cls tag cons len).length : Int) := by
  have e := readH_enc cls tag cons len h t
  unfold hErr hCls hTag hCons hLen hSz
  rw [e]
  exact ⟨rfl, rfl, rfl, rfl, rfl, rfl⟩
/-- The head check of a header that is followed by its content. -/
theorem hdc_enc (lv : Nat) (hlv : lv < 32) (cls tag : Int) (cons : Bool) (len : Int) (h : okH cls tag len) (t : List Int) (ht : len ≤ (t.length : Int)) :
    hdc lv (encH cls tag cons len ++ t) = if cls = 0 ∧ tag = 0 then 3 else if rightP cls tag cons = false then 7 else 0 := by
  obtain ⟨e1, e2, e3, e4, e5, e6⟩ := hd_enc cls tag cons len h t
  unfold hdc
  rw [if_neg (by omega), e1, if_neg (by decide), e2, e3, e4, e5, e6]
  split
  · rfl
  · split
    · rfl
    · rw [if_neg (by rw [List.length_append]; omega)]

theorem sept_l0 : ∀ (N k : Nat) (m : Int) (acc : List Int), m.toNat ≤ N → 0 ≤ m → m ≤ 268435455 → acc.length + N ≤ 3000000000 → N < k → sobriquetref01_septets.l0 k m acc = some (contBE m ++ acc) := by
  intro N
  induction N with
  | zero =>
    intro k m acc hm h0 h1 hl hk
    obtain ⟨k, rfl⟩ : ∃ j, k = j + 1 := ⟨k - 1, by omega⟩
    rw [sobriquetref01_septets.l0, if_neg (by omega), contBE_nil m (by omega)]; rfl
  | succ N ih =>
    intro k m acc hm h0 h1 hl hk
    obtain ⟨k, rfl⟩ : ∃ j, k = j + 1 := ⟨k - 1, by omega⟩
    rw [sobriquetref01_septets.l0]
    by_cases hp : m > 0
    · rw [if_pos hp, tmod_nn h0, tdiv_nn h0, w64 (x := 128 + m % 128) (by omega) (by omega), w64 (x := m / 128) (by omega) (by omega), show (128 + m % 128) % 256 = m % 128 + 128 by omega]
      simp only [Option.bind_some]
      rw [if_pos (by simp; omega), ih k (m / 128) _ (by omega) (by omega) (by omega) (by simp; omega) (by omega), contBE_pos m hp, List.append_assoc]
    · rw [if_neg hp, contBE_nil m (by omega)]; rfl
theorem sept_f (k : Nat) (hk : 1000000000 ≤ k) (n : Int) (h0 : 0 ≤ n) (h1 : n ≤ 268435455) : sobriquetref01_septets.f k n = some (contBE (n / 128) ++ [n % 128]) := by
  unfold sobriquetref01_septets.f
  rw [tdiv_nn h0, tmod_nn h0, w64 (by omega) (by omega), show n % 128 % 256 = n % 128 by omega, sept_l0 (n / 128).toNat k (n / 128) _ (Nat.le_refl _) (by omega) (by omega) (by simp; omega) (by omega)]
theorem hb_l0 (b : List Int) (hb : b.length ≤ 1000) : ∀ (N k : Nat) (m : Int) (acc : List Int), m.toNat ≤ N → 0 ≤ m → m ≤ 2147483647 → acc.length + N ≤ 3000000000 → N < k → (byBE m ++ acc).length ≤ 100 → sobriquetref01_HeadBytes.l0 k b acc m = some (b ++ (128 + ((byBE m ++ acc).length : Int)) :: (byBE m ++ acc)) := by
  intro N
  induction N with
  | zero =>
    intro k m acc hm h0 h1 hl hk h100
    obtain ⟨k, rfl⟩ : ∃ j, k = j + 1 := ⟨k - 1, by omega⟩
    rw [byBE_nil m (by omega), List.nil_append] at h100 ⊢
    rw [sobriquetref01_HeadBytes.l0, if_neg (by omega), if_pos (by omega), w64 (by omega) (by omega), show (128 + (acc.length : Int)) % 256 = 128 + (acc.length : Int) by omega]
    simp only [Option.bind_some]
    rw [if_pos (by simp; omega), List.append_assoc]; rfl
  | succ N ih =>
    intro k m acc hm h0 h1 hl hk h100
    obtain ⟨k, rfl⟩ : ∃ j, k = j + 1 := ⟨k - 1, by omega⟩
    by_cases hp : m > 0
    · have e : byBE m ++ acc = byBE (m / 256) ++ ([m % 256] ++ acc) := by rw [byBE_pos m hp, List.append_assoc]
      rw [e] at h100 ⊢
      rw [sobriquetref01_HeadBytes.l0, if_pos hp, tdiv_nn h0, w64 (x := m / 256) (by omega) (by omega)]
      simp only [Option.bind_some]
      rw [if_pos (by simp; omega), ih k (m / 256) _ (by omega) (by omega) (by omega) (by simp; omega) (by omega) h100]
    · rw [byBE_nil m (by omega), List.nil_append] at h100 ⊢
      rw [sobriquetref01_HeadBytes.l0, if_neg (by omega), if_pos (by omega), w64 (by omega) (by omega), show (128 + (acc.length : Int)) % 256 = 128 + (acc.length : Int) by omega]
      simp only [Option.bind_some]
      rw [if_pos (by simp; omega), List.append_assoc]; rfl
theorem HeadBytes_f (k : Nat) (hk : 5000000000 ≤ k) (cls tag : Int) (cons : Bool) (len size : Int) (ok : okH cls tag len) : sobriquetref01_HeadBytes.f k cls tag cons len size = some (encH cls tag cons len) := by
  obtain ⟨h1, h2, h3, h4, h5, h6⟩ := ok
  obtain ⟨k, rfl⟩ : ∃ j, k = j + 2 := ⟨k - 2, by omega⟩
  have hcl := contLE_len (tag / 128) (by omega) (by omega)
  have J1 : ∀ b : List Int, b.length ≤ 1000 → sobriquetref01_HeadBytes.j1 (k + 1) b cls tag cons len size = some (b ++ lenB len) := by
    intro b hb
    rw [sobriquetref01_HeadBytes.j1]
    by_cases c : len < 128
    · have e : lenB len = [len] := by unfold lenB; rw [if_pos c]
      rw [if_pos c, if_pos (by omega), e, show len % 256 = len by omega]
    · have h4' := byBE_len4 len (by omega) h6
      rw [if_neg c, hb_l0 b hb len.toNat k len [] (Nat.le_refl _) h5 h6 (by simp; omega) (by omega) (by simp; omega), lenB_big len c, List.append_nil]
  have J0 : ∀ x, 0 ≤ x → x ≤ 224 → sobriquetref01_HeadBytes.j0 (k + 2) x cls tag cons len size = some ((if tag < 31 then [x + tag] else (x + 31) :: (contBE (tag / 128) ++ [tag % 128])) ++ lenB len) := by
    intro x x0 x1
    rw [sobriquetref01_HeadBytes.j0]
    by_cases t : tag < 31
    · rw [if_pos t, if_pos t, w64 (by omega) (by omega), show (x + tag) % 256 = x + tag by omega, J1 _ (by simp)]
    · rw [if_neg t, if_neg t, sept_f (k + 1) (by omega) tag h3 h4, w64 (by omega) (by omega), show (x + 31) % 256 = x + 31 by omega]
      simp only [Option.bind_some]
      rw [if_pos (by simp [contBE]; omega), J1 _ (by simp [contBE]; omega)]; rfl
  unfold sobriquetref01_HeadBytes.f encH
  cases cons with
  | true => rw [if_pos rfl, if_pos rfl, w64 (x := cls * 64) (by omega) (by omega), w64 (x := cls * 64 + 32) (by omega) (by omega), J0 _ (by omega) (by omega)]
  | false => rw [if_neg (show ¬ (false = true) by decide), if_neg (show ¬ (false = true) by decide), w64 (x := cls * 64) (by omega) (by omega), J0 _ (by omega) (by omega), Int.add_zero]
theorem rWrap_f (k : Nat) (hk : 5000000000 ≤ k) (cls tag : Int) (cons : Bool) (l : List Int) (hl : l.length ≤ 1000000) (ok : okH cls tag l.length) : sobriquetref01_Wrap.f k cls tag cons l = some (encH cls tag cons l.length ++ l) := by
  have := encH_len cls tag cons _ ok
  unfold sobriquetref01_Wrap.f
  rw [HeadBytes_f k hk cls tag cons _ 0 ok]
  simp only [Option.bind_some]
  rw [if_pos (by omega)]

theorem T_leaf (cls tag : Int) (c : List Int) (h : okH cls tag c.length) (hc : cls ≠ 0) : T (encH cls tag false c.length ++ c) = (0, ((encH cls tag false c.length).length : Int) + c.length, 1) := by
  obtain ⟨e1, e2, e3, e4, e5, e6⟩ := hd_enc cls tag false c.length h c
  have e := hdc_enc 0 (by decide) cls tag false c.length h c (Int.le_refl _)
  rw [if_neg (show ¬ (cls = 0 ∧ tag = 0) from fun q => hc q.1), if_neg (by unfold rightP; rw [if_pos (.inl hc)]; decide)] at e
  have hVC : VC 0 (encH cls tag false c.length ++ c) = (0, 0, 0) := by unfold VC; rw [e4, if_neg (by decide)]
  unfold T
  rw [e, if_neg (by decide), hVC, if_neg (by decide), e5, e6, if_neg (by rw [List.length_append]; omega)]
  rfl
theorem WellLeaf : sobriquetlaw02_WellLeaf.Pure := by
  intro a0 a1 l2 w0 w1 _ _ hb0
  have hb := wfu8 hb0
  by_cases h7 : (l2.length : Int) > 700
  · exact ⟨0, by unfold sobriquetlaw02_WellLeaf.f; rw [if_pos h7]⟩
  obtain ⟨cls, hc, c0, c1⟩ := umod a0 3 (by decide) (by decide)
  obtain ⟨tag, ht, t0, t1⟩ := umod a1 100 (by decide) (by decide)
  refine ⟨6000000000, ?_⟩
  unfold sobriquetlaw02_WellLeaf.f
  have ok : okH (1 + cls) tag (l2.length : Int) := ⟨by omega, by omega, by omega, by omega, by omega, by omega⟩
  rw [if_neg h7, hc, ht, w64 (x := 1 + cls) (by omega) (by omega), rWrap_f 6000000000 (by decide) (1 + cls) tag false l2 (by omega) ok]
  simp only [Option.bind_some]
  have hE := encH_len (1 + cls) tag false l2.length ok
  have hby : ∀ x ∈ encH (1 + cls) tag false l2.length ++ l2, 0 ≤ x ∧ x < 256 := by
    intro x hx
    rcases List.mem_append.mp hx with q | q
    · exact encH_b _ _ _ _ ok x q
    · exact hb x q
  have hlen : (encH (1 + cls) tag false l2.length ++ l2).length ≤ 1000000 := by rw [List.length_append]; omega
  have hT := T_leaf (1 + cls) tag l2 ok (by omega)
  have h1 := bOne_f 6000000000 (by decide) (1 + cls) tag false l2.length ok l2 [] rfl (by omega) (by simp) hb (by simp)
  rw [List.append_nil] at h1
  have hP : well_Parts.f 6000000000 (encH (1 + cls) tag false l2.length ++ l2) = some ([], 7) := by
    show Go.Proofs.Ytogbpdmncnldhaa.Base.well_Parts.f 6000000000 (encH (1 + cls) tag false l2.length ++ l2) = some ([], 7)
    obtain ⟨dd, hw, _⟩ := walk_T _ hlen hby 6000000000 (by decide)
    unfold Go.Proofs.Ytogbpdmncnldhaa.Base.well_Parts.f
    rw [hw, hT]
    simp only [Option.bind_some, if_true]
    rw [h1]
    rfl
  have h2 : tlv_One.f 6000000000 (encH (1 + cls) tag false l2.length ++ l2) = some (1 + cls, tag, false, (l2.length : Int), ((encH (1 + cls) tag false l2.length).length : Int), l2, [], 0) := h1
  rw [mCheck _ hlen hby 6000000000 (by decide), mDepth _ hlen hby 6000000000 (by decide), hP, h2, hT]
  simp only [Option.bind_some, if_true]
  rw [if_pos (show (([] : List Int).length : Int) = 0 from rfl), Bytes_f l2 l2 6000000000 (by omega) (by omega), wakes_ok 6000000000 (by decide)]
  simp

end Go.Proofs.Ytogbpdmncnldhaa.Pure
