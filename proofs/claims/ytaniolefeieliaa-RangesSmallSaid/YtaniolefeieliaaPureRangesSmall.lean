/- The statement RangesSmall: what is packed has no block twice, and is not too big. No conditions. -/
import Derived.Test.YtaniolefeieliaaMRangesSmallx3
import Derived.Test.YtaniolefeieliaaPq
namespace Go.Proofs.Ytaniolefeieliaa.Pure
open Go.RowKit Go.Proofs.Ytaniolefeieliaa.MRangesSmall Go.Proofs.YtaniolefeieliaaW.PrintWords Go.Proofs.YtaniolefeieliaaW.PrintLast
set_option linter.unusedVariables false
set_option linter.unusedSimpArgs false
set_option maxHeartbeats 1000000

theorem w64 {x : Int} (h0 : -9223372036854775808 ≤ x) (h1 : x ≤ 9223372036854775807) : wrap64 x = x := by unfold wrap64; omega
theorem w64_nat {i n : Nat} (h : i < n) (hn : n ≤ 4611686018427387904) : wrap64 ((i : Int) + 1) = ((i + 1 : Nat) : Int) := by unfold wrap64; omega
theorem rd_nat (xs : List Int) (i : Nat) (h : i < xs.length) : rd xs (i : Int) = xs[i] := by simp [rd, List.getD_eq_getElem?_getD, List.getElem?_eq_getElem h]
theorem wf64 {a : Int} (h : (Lit.int .i64 a).wf = true) : -9223372036854775808 ≤ a ∧ a ≤ 9223372036854775807 := by
  simpa [Lit.wf, show IntKind.i64.min = -9223372036854775808 from rfl] using h
theorem tdiv_nn {a : Int} (h : 0 ≤ a) (b : Int) : Int.tdiv a b = a / b := Int.tdiv_eq_ediv_of_nonneg h
theorem tmod_nn {a : Int} (h : 0 ≤ a) (b : Int) : Int.tmod a b = a % b := Int.tmod_eq_emod_of_nonneg h
theorem dec_iff (p q : Prop) [Decidable p] [Decidable q] (h : p ↔ q) : decide p = decide q := by simp [h]
theorem dec_t (p : Prop) [Decidable p] (h : p) : decide p = true := by simp [h]
theorem dec_f (p : Prop) [Decidable p] (h : ¬ p) : decide p = false := by simp [h]
theorem tmod_bd (a c : Int) (hc : 0 < c) : -c < Int.tmod a c ∧ Int.tmod a c < c := by
  have h1 := Int.emod_nonneg a (b := c) (by omega)
  have h2 := Int.emod_lt_of_pos a hc
  have h3 : ((c.natAbs : Nat) : Int) = c := by omega
  have h4 := Int.tmod_lt_of_pos a hc
  refine ⟨?_, h4⟩
  rw [Int.tmod_eq_emod]
  split
  · omega
  · rename_i h
    have : a % c ≠ 0 := fun e => h (.inr (Int.dvd_of_emod_eq_zero e))
    omega
theorem w64l (x y : Int) (h : x = y ∧ -9223372036854775808 ≤ y ∧ y ≤ 9223372036854775807) : wrap64 x = y := by rw [h.1]; exact w64 h.2.1 h.2.2

theorem Ints_l0 (a b : List Int) (hl : a.length = b.length) (hm : a.length ≤ 4611686018427387904) : ∀ (d k i : Nat), i + d = a.length → d < k → sobriquetkeep_Ints.l0 k a b (i : Int) = some (decide (a.drop i = b.drop i)) := by
  intro d
  induction d with
  | zero =>
    intro k i hi hk
    obtain ⟨k, rfl⟩ : ∃ m, k = m + 1 := ⟨k - 1, by omega⟩
    simp only [sobriquetkeep_Ints.l0]
    rw [if_neg (by omega), List.drop_eq_nil_of_le (by omega), List.drop_eq_nil_of_le (by omega)]
    simp
  | succ d ih =>
    intro k i hi hk
    obtain ⟨k, rfl⟩ : ∃ m, k = m + 1 := ⟨k - 1, by omega⟩
    have ha : i < a.length := by omega
    have hb : i < b.length := by omega
    simp only [sobriquetkeep_Ints.l0]
    rw [if_pos (by omega), if_pos (by omega), if_pos (by omega), rd_nat a i ha, rd_nat b i hb, w64_nat ha hm, ih k (i + 1) (by omega) (by omega), List.drop_eq_getElem_cons ha, List.drop_eq_getElem_cons hb]
    by_cases h : a[i] = b[i]
    · simp only [h, if_true, List.cons.injEq, true_and]
    · simp only [h, if_false, List.cons.injEq, false_and, decide_false]
theorem Ints_f (a b : List Int) (k : Nat) (hm : a.length ≤ 4611686018427387904) (hk : a.length < k) : sobriquetkeep_Ints.f k a b = some (decide (a = b)) := by
  unfold sobriquetkeep_Ints.f
  by_cases hl : a.length = b.length
  · rw [if_pos (by omega)]
    have := Ints_l0 a b hl hm a.length k 0 (by omega) hk
    simpa using this
  · rw [if_neg (by omega)]
    have : a ≠ b := fun h => hl (by rw [h])
    simp [this]

open Go.Proofs.Ytaniolefeieliaa.Pk (valF flatV flat_val flat_at flat_out Right Said pack_said go_len block_at flat_get packGo blockF check_f pack_one one one_wrong packedB wrongB badB)
theorem rdn (xs : List Int) (i : Nat) (v : Int) (h : xs[i]? = some v) : rd xs (i : Int) = v := by simp [rd, List.getD_eq_getElem?_getD, h]
theorem rdT (l : List S44) (i : Nat) (h : i < l.length) : rd_T44 l (i : Int) = l[i] := by simp [rd_T44, List.getD_eq_getElem?_getD, List.getElem?_eq_getElem h]
theorem dm1 (c : Int) (h0 : 0 ≤ c) (h1 : c ≤ 1114111) : ∃ j r : Nat, wrap64 (Int.tdiv c 256) = (j : Int) ∧ Int.tmod c 256 = (r : Int) ∧ j < 4352 ∧ r < 256 ∧ 256 * (j : Int) + (r : Int) = c := by
  refine ⟨(c / 256).toNat, (c % 256).toNat, ?_, ?_, ?_, ?_, ?_⟩
  · rw [tdiv_nn h0, w64 (by omega) (by omega)]; omega
  · rw [tmod_nn h0]; omega
  · omega
  · omega
  · omega
theorem dm2 (m n r : Nat) (hm : m < n) (hn : n ≤ 4352) (hr : r < 256) : wrap64 (wrap64 ((m : Int) * 256) + (r : Int)) = ((256 * m + r : Nat) : Int) := by
  rw [w64 (x := (m : Int) * 256) (by omega) (by omega), w64 (by omega) (by omega)]
  omega
theorem dm3 (n : Nat) (hn : n ≤ 4352) : wrap64 (((n * 256 : Nat) : Int) / 256) = (n : Int) := by
  rw [w64 (by omega) (by omega)]
  omega
theorem dm4 (m n r : Nat) (hm : m < n) (hr : r < 256) : ((256 * m + r : Nat) : Int) < ((n * 256 : Nat) : Int) := by omega
/-- What a packed table tells. -/
theorem Get_said (L : List Go.Proofs.Ytaniolefeieliaa.Base.S44) (hR : Right L) (ix : List Int) (bs : List (List Int)) (hS : Said L ix bs 4352) (hb : bs.length ≤ 4352) (c : Int) : ranges_Get.f ix bs.flatten c = some (flatV L c) := by
  obtain ⟨h1, h2, h3⟩ := hS
  have hfl := Go.Proofs.Ytaniolefeieliaa.Pk.flat_len h2
  obtain ⟨bl, hbl⟩ : ∃ bl, bl = bs.flatten := ⟨_, rfl⟩
  rw [← hbl] at hfl ⊢
  unfold ranges_Get.f
  by_cases c0 : c < 0
  · rw [if_pos c0, flat_out hR c (.inl c0)]
  rw [if_neg c0]
  by_cases c1 : c > 1114111
  · rw [if_pos c1, flat_out hR c (.inr c1)]
  rw [if_neg c1]
  obtain ⟨j, r, e1, e2, hj, hr, hc⟩ := dm1 c (Int.not_lt.1 c0) (Int.not_lt.1 c1)
  have hjl : j < ix.length := by rw [h1]; exact hj
  obtain ⟨m, hm1, hm2⟩ := h3 j hjl
  have hmb : m < bs.length := (List.getElem?_eq_some_iff.1 hm2).1
  have e3 : rd ix (j : Int) = (m : Int) := by rw [rd_nat ix j hjl]; exact hm1
  have e4 : wrap64 ((bl.length : Int) / 256) = (bs.length : Int) := by rw [hfl]; exact dm3 _ hb
  have e5 := dm2 m bs.length r hmb hb hr
  have hv := (flat_get bs m r _ h2 hm2 hr).trans (block_at L (256 * (j : Int)) r hr)
  rw [hc, ← hbl] at hv
  have g1 : ¬ ((j : Int) ≥ (ix.length : Int)) := fun h => absurd (Int.ofNat_le.1 h) (Nat.not_le.2 hjl)
  have g2 : (j : Int) < (ix.length : Int) := Int.ofNat_lt.2 hjl
  have g3 : ¬ ((m : Int) < 0) := Int.not_lt.2 (Int.natCast_nonneg _)
  have g4 : ¬ ((m : Int) ≥ (bs.length : Int)) := fun h => absurd (Int.ofNat_le.1 h) (Nat.not_le.2 hmb)
  have g5 : (0 : Int) ≤ ((256 * m + r : Nat) : Int) := Int.natCast_nonneg _
  have g6 : ((256 * m + r : Nat) : Int) < (bl.length : Int) := by rw [hfl]; exact dm4 m bs.length r hmb hr
  rw [e1, if_neg g1, if_pos (Int.natCast_nonneg _), if_pos g2, e3, if_neg g3, e4, if_neg g4, e2, e5, if_pos g5, if_pos g6, rdn _ _ _ hv, flat_val hR]
/-- Pack: not right, or what packGo says. -/
theorem Pack_f (l : List S44) (k : Nat) (hk : l.length < k) : ranges_Pack.f k l = some ([], [], 1) ∨ (Right (l.map ranges_Pack.cv) ∧ ranges_Pack.f k l = some ((packGo 4352 (l.map ranges_Pack.cv) 0 [] []).1, (packGo 4352 (l.map ranges_Pack.cv) 0 [] []).2.flatten, 0)) := by
  have hl : (l.map ranges_Pack.cv).length = l.length := List.length_map ..
  obtain ⟨e, he1, he2, he3⟩ := check_f (l.map ranges_Pack.cv) k (by omega)
  have hf : ranges_Pack.f k l = (Go.Proofs.Ytaniolefeieliaa.Base.ranges_Check.f k (l.map ranges_Pack.cv)).bind fun e => if e = 0 then some ((packGo 4352 (l.map ranges_Pack.cv) 0 [] []).1, (packGo 4352 (l.map ranges_Pack.cv) 0 [] []).2.flatten, 0) else some ([], [], 1) := rfl
  rw [hf, he1, Option.bind_some]
  rcases he2 with rfl | rfl
  · exact .inr ⟨he3 rfl, if_pos rfl⟩
  · exact .inl (if_neg (by decide))

/-! ### wakes -/
def xo : S44 := ⟨300, 301, 7⟩
theorem one_val (c : Int) : flatV [one] c = if 300 ≤ c ∧ c ≤ 301 then 7 else 0 := by
  unfold flatV
  rw [List.find?_cons]
  by_cases h : 300 ≤ c ∧ c ≤ 301
  · rw [if_pos h, (Go.Proofs.Ytaniolefeieliaa.Pk.has_iff c one).2 h]
    rfl
  · rw [if_neg h, show Go.Proofs.Ytaniolefeieliaa.Pk.hasB c one = false from by rw [← Bool.not_eq_true, Go.Proofs.Ytaniolefeieliaa.Pk.has_iff]; exact h]
    rfl
theorem Unp_zero (ix bl : List Int) (V : Int → Int) (hV : ∀ c, ranges_Get.f ix bl c = some (V c)) : ∀ (d k c : Nat) (acc : List S44), (∀ j : Nat, c ≤ j → j < c + d → V (j : Int) = 0) → c + d ≤ 1114112 → ranges_Unpack.l0 (k + d) acc (c : Int) ix bl = ranges_Unpack.l0 k acc ((c + d : Nat) : Int) ix bl := by
  intro d
  induction d with
  | zero => intro k c acc _ _; rfl
  | succ d ih =>
    intro k c acc hv hc
    rw [show k + (d + 1) = (k + d) + 1 by omega]
    simp only [ranges_Unpack.l0]
    rw [if_pos (by omega), hV, Option.bind_some, if_pos (hv c (Nat.le_refl _) (by omega)), w64 (by omega) (by omega), show ((c : Int) + 1) = ((c + 1 : Nat) : Int) by omega, ih k (c + 1) acc (fun j h1 h2 => hv j (by omega) (by omega)) (by omega), show c + 1 + d = c + (d + 1) by omega]
theorem Unp_300 (ix bl : List Int) (hV : ∀ c, ranges_Get.f ix bl c = some (flatV [one] c)) (k : Nat) : ranges_Unpack.l0 (k + 1) [] ((300 : Nat) : Int) ix bl = ranges_Unpack.l0 k [⟨300, 300, 7⟩] ((301 : Nat) : Int) ix bl := by
  have V3 : flatV [one] ((300 : Nat) : Int) = 7 := by rw [one_val, if_pos (by omega)]
  have e1 : wrap64 (((300 : Nat) : Int) + 1) = ((301 : Nat) : Int) := by rw [w64 (by omega) (by omega)]; rfl
  simp only [ranges_Unpack.l0]
  rw [if_pos (by omega), hV, Option.bind_some, V3, if_neg (by decide), if_neg (by decide), if_neg (by decide), if_pos (by decide), e1]
  rfl
theorem Unp_301 (ix bl : List Int) (hV : ∀ c, ranges_Get.f ix bl c = some (flatV [one] c)) (k : Nat) : ranges_Unpack.l0 (k + 1) [⟨300, 300, 7⟩] ((301 : Nat) : Int) ix bl = ranges_Unpack.l0 k [xo] ((302 : Nat) : Int) ix bl := by
  have V3 : flatV [one] ((301 : Nat) : Int) = 7 := by rw [one_val, if_pos (by omega)]
  have e1 : wrap64 (((301 : Nat) : Int) + 1) = ((302 : Nat) : Int) := by rw [w64 (by omega) (by omega)]; rfl
  have e2 : wrap64 (((301 : Nat) : Int) - 1) = 300 := by rw [w64 (by omega) (by omega)]; rfl
  have e3 : wrap64 ((([⟨300, 300, 7⟩] : List S44).length : Int) - 1) = 0 := by rw [w64 (by simp) (by simp)]; rfl
  simp only [ranges_Unpack.l0]
  rw [if_pos (by omega), hV, Option.bind_some, V3, if_neg (by decide), if_pos (by decide), e3, if_pos (by decide), if_pos (by decide), e2, if_pos (by rfl), if_pos (by rfl), e1]
  rfl
theorem Unp_end (ix bl : List Int) (k : Nat) (acc : List S44) : ranges_Unpack.l0 (k + 1) acc ((1114112 : Nat) : Int) ix bl = some (acc, 0) := by
  simp only [ranges_Unpack.l0]
  rw [if_neg (by omega)]
theorem Unp_one (ix bl : List Int) (hV : ∀ c, ranges_Get.f ix bl c = some (flatV [one] c)) (k : Nat) (hk : 1114200 < k) : ranges_Unpack.l0 k [] 0 ix bl = some ([xo], 0) := by
  obtain ⟨D, hD⟩ : ∃ D : Nat, D = 1113810 := ⟨_, rfl⟩
  obtain ⟨k, rfl⟩ : ∃ m, k = m + 1 + D + 1 + 1 + 300 := ⟨k - (D + 303), by omega⟩
  have h0 := Unp_zero ix bl _ hV 300 (k + 1 + D + 1 + 1) 0 [] (fun j h1 h2 => by rw [one_val, if_neg (by omega)]) (by omega)
  have h2 := Unp_zero ix bl _ hV D (k + 1) 302 [xo] (fun j h1 h2 => by rw [one_val, if_neg (by omega)]) (by omega)
  rw [show ((0 : Nat) : Int) = 0 from rfl, show 0 + 300 = 300 from rfl] at h0
  rw [show 302 + D = 1114112 by omega] at h2
  rw [h0, Unp_300 ix bl hV, Unp_301 ix bl hV, h2]
  exact Unp_end ix bl k [xo]
theorem chk_one (j : Nat) : Go.Proofs.Ytaniolefeieliaa.Base.ranges_Check.f (j + 3) [one] = some 0 := by
  have hr : Go.Proofs.Ytaniolefeieliaa.Base.ranges_right.f 300 301 7 [] = some true := by decide +kernel
  unfold Go.Proofs.Ytaniolefeieliaa.Base.ranges_Check.f
  rw [if_neg (by decide)]
  show Go.Proofs.Ytaniolefeieliaa.Base.ranges_Check.l0 ((j + 2) + 1) [one] [one] 1 0 = _
  rw [Go.Proofs.Ytaniolefeieliaa.Base.ranges_Check.l0, if_pos (by decide), if_pos (by decide), if_pos (by decide), if_pos (by decide)]
  show (Go.Proofs.Ytaniolefeieliaa.Base.ranges_right.f 300 301 7 []).bind _ = _
  rw [hr, Option.bind_some, if_pos rfl]
  show Go.Proofs.Ytaniolefeieliaa.Base.ranges_Check.l0 ((j + 1) + 1) [one] [one] 1 (wrap64 (0 + 1)) = _
  rw [show wrap64 (0 + 1) = 1 from by rw [w64 (by omega) (by omega)]; rfl, Go.Proofs.Ytaniolefeieliaa.Base.ranges_Check.l0, if_neg (by decide)]
theorem chk_bad (j : Nat) : ranges_Check.f (j + 3) [(⟨0, 0, 0⟩ : S44)] = some 1 := by
  have hr : ranges_right.f 0 0 0 [] = some false := by decide +kernel
  unfold ranges_Check.f
  rw [if_neg (by decide)]
  show ranges_Check.l0 ((j + 2) + 1) [⟨0, 0, 0⟩] [⟨0, 0, 0⟩] 1 0 = _
  rw [ranges_Check.l0, if_pos (by decide), if_pos (by decide), if_pos (by decide), if_pos (by decide)]
  show (ranges_right.f 0 0 0 []).bind _ = _
  rw [hr, Option.bind_some, if_neg (by decide)]
theorem one_right : Right [one] := by
  refine ⟨fun x hx => ?_, List.pairwise_singleton _ _⟩
  rw [List.mem_singleton.1 hx]
  unfold Go.Proofs.Ytaniolefeieliaa.Pk.okS one
  decide
theorem wakes_true (k : Nat) (hk : 1114200 < k) : sobriquetlaw05_wakes.f k = some true := by
  obtain ⟨j, rfl⟩ : ∃ j, k = j + 3 := ⟨k - 3, by omega⟩
  have hchk : Go.Proofs.Ytaniolefeieliaa.Base.ranges_Check.f (j + 3) [one] = some 0 := chk_one j
  have hbad : ranges_Check.f (j + 3) [(⟨0, 0, 0⟩ : S44)] = some 1 := chk_bad j
  have hpk : ranges_Pack.f (j + 3) [(⟨300, 301, 7⟩ : S44)] = some ((packGo 4352 [one] 0 [] []).1, (packGo 4352 [one] 0 [] []).2.flatten, 0) := by
    show (Go.Proofs.Ytaniolefeieliaa.Base.ranges_Check.f (j + 3) [one]).bind _ = _
    rw [hchk, Option.bind_some, if_pos rfl]
    rfl
  have hS := pack_said [one]
  have hB : (packGo 4352 [one] 0 [] []).2.length ≤ 4352 := go_len 4352 0 [one] [] []
  have hV := Get_said [one] one_right _ _ hS hB
  have h1 := hS.1
  have hent := hS.2.2
  obtain ⟨ix, hix⟩ : ∃ ix, ix = (packGo 4352 [one] 0 [] []).1 := ⟨_, rfl⟩
  rw [← hix] at hpk h1 hent hV
  rw [pack_one] at hpk hent hV
  have hbl : ([List.replicate 256 0, blockF [one] 256] : List (List Int)).flatten.length = 512 := by decide +kernel
  have hpd : ranges_packed.f ix ([List.replicate 256 0, blockF [one] 256] : List (List Int)).flatten = some true := by
    show some (packedB ix _) = _
    unfold packedB
    rw [hbl, one_wrong, decide_eq_true h1]
    have : ix.any (badB ((512 / 256 : Nat) : Int)) = false := by
      rw [List.any_eq_false]
      intro x hx
      obtain ⟨i, hi, rfl⟩ := List.getElem_of_mem hx
      obtain ⟨m, hm1, hm2⟩ := hent i hi
      have hm := (List.getElem?_eq_some_iff.1 hm2).1
      simp only [List.length_cons, List.length_nil] at hm
      rw [hm1]
      unfold badB
      rw [decide_eq_false (by omega), decide_eq_false (by omega)]
      decide
    rw [this]
    decide
  have hun : ranges_Unpack.f (j + 3) ix ([List.replicate 256 0, blockF [one] 256] : List (List Int)).flatten = some ([xo], 0) := by
    unfold ranges_Unpack.f
    rw [hpd, Option.bind_some, if_pos rfl]
    exact Unp_one _ _ hV _ hk
  have V0 : flatV [one] 300 = 7 := by rw [one_val, if_pos (by omega)]
  have V2 : flatV [one] 302 = 0 := by rw [one_val, if_neg (by omega)]
  unfold sobriquetlaw05_wakes.f
  rw [hpk, Option.bind_some]
  dsimp only
  rw [hun, Option.bind_some]
  dsimp only
  rw [if_pos rfl, if_pos rfl, hV, Option.bind_some, V0, if_pos rfl, hV, Option.bind_some, V2, if_pos rfl, if_pos (by rw [h1]; rfl), if_pos (by rw [hbl]; rfl), if_pos (by rfl), if_pos (by decide), if_pos (by rfl), hbad, Option.bind_some]
  rfl

open Go.Proofs.Ytaniolefeieliaa.Pk (go_prefix go_ixlen go_nodup pack_few flat_cut put1 trimF flat_len)
theorem Small_l0 (x0 : List S44) (N : Int) (IX BL : List Int) : ∀ (d k i : Nat) (l : List Go.Proofs.Ytaniolefeieliaa.Base.S44) (ix : List Int) (bs : List (List Int)), ix.length = i → bs.length + d ≤ 10000 → i + d ≤ 10000 → (packGo d l i ix bs).1 = IX → sobriquetlaw05_RangesSmall.l0 (k + d + 1) x0 N (bs.length : Int) (i : Int) IX BL = sobriquetlaw05_RangesSmall.l1 k x0 N (((packGo d l i ix bs).2.length : Nat) : Int) 0 IX BL := by
  intro d
  induction d with
  | zero =>
    intro k i l ix bs hi hb hi2 hp
    have e : IX.length = i := by rw [← hp]; exact hi
    rw [sobriquetlaw05_RangesSmall.l0]
    rw [if_neg (by omega)]
    rfl
  | succ d ih =>
    intro k i l ix bs hi hb hi2 hp
    have hlen : IX.length = i + (d + 1) := by rw [← hp, go_ixlen, hi]
    rw [packGo] at hp ⊢
    obtain ⟨b, hbb⟩ : ∃ b, b = blockF l (256 * (i : Int)) := ⟨_, rfl⟩
    rw [← hbb] at hp ⊢
    obtain ⟨r, hr⟩ := go_prefix d (i + 1) (trimF l (256 * (i : Int) + 256)) (ix ++ [((bs.idxOf b : Nat) : Int)]) (put1 bs b)
    have hv : rd IX (i : Int) = ((bs.idxOf b : Nat) : Int) := by
      refine rdn _ _ _ ?_
      rw [← hp, hr, List.append_assoc, List.getElem?_append_right (by omega), hi, Nat.sub_self]
      rfl
    have hle : bs.idxOf b ≤ bs.length := List.idxOf_le_length
    rw [show k + (d + 1) + 1 = (k + d + 1) + 1 by omega]
    rw [sobriquetlaw05_RangesSmall.l0]
    rw [if_pos (by omega), if_pos (by omega), hv, if_neg (by omega), if_neg (by omega), w64_nat (i := i) (n := 10001) (by omega) (by omega)]
    by_cases hb1 : b ∈ bs
    · have hlt : bs.idxOf b < bs.length := List.idxOf_lt_length_of_mem hb1
      have e1 : put1 bs b = bs := by unfold put1; rw [if_pos hb1]
      rw [e1] at hp ⊢
      rw [if_neg (by omega)]
      exact ih k (i + 1) _ _ bs (by rw [List.length_append, hi]; rfl) (by omega) (by omega) hp
    · have heq : bs.idxOf b = bs.length := List.idxOf_eq_length hb1
      have e1 : (put1 bs b).length = bs.length + 1 := by unfold put1; rw [if_neg hb1, List.length_append]; rfl
      rw [if_pos (by omega), w64_nat (i := bs.length) (n := 10001) (by omega) (by omega), ← e1]
      exact ih k (i + 1) _ _ (put1 bs b) (by rw [List.length_append, hi]; rfl) (by omega) (by omega) hp
theorem Small_l2 (x0 : List S44) (S : Int) (IX : List Int) (bs : List (List Int)) (hl : ∀ b ∈ bs, b.length = 256) (hn : bs.Nodup) (hb : bs.length ≤ 4352) (i : Nat) (hi : i < bs.length) : ∀ (d k j : Nat), j + d = i → 300 ≤ k → sobriquetlaw05_RangesSmall.l2 (k + d + 1) x0 (bs.length : Int) S (i : Int) (j : Int) IX bs.flatten = sobriquetlaw05_RangesSmall.l1 k x0 (bs.length : Int) S ((i + 1 : Nat) : Int) IX bs.flatten := by
  have hfl := flat_len hl
  obtain ⟨bl, hbl⟩ : ∃ bl, bl = bs.flatten := ⟨_, rfl⟩
  have hcut : ∀ m : Nat, (hm : m < bs.length) → (bl.take (256 * m + 256)).drop (256 * m) = bs[m] := fun m hm => by rw [hbl]; exact flat_cut bs m _ hl (List.getElem?_eq_getElem hm)
  rw [← hbl] at hfl ⊢
  intro d
  induction d with
  | zero =>
    intro k j hj hk
    rw [sobriquetlaw05_RangesSmall.l2]
    rw [if_neg (by omega), w64_nat hi (by omega)]
  | succ d ih =>
    intro k j hj hk
    have hj2 : j < bs.length := by omega
    have ei : wrap64 (256 * (i : Int)) = ((256 * i : Nat) : Int) := by rw [w64 (by omega) (by omega)]; omega
    have ej : wrap64 (256 * (j : Int)) = ((256 * j : Nat) : Int) := by rw [w64 (by omega) (by omega)]; omega
    have ei2 : wrap64 (((256 * i : Nat) : Int) + 256) = ((256 * i + 256 : Nat) : Int) := by rw [w64 (by omega) (by omega)]; omega
    have ej2 : wrap64 (((256 * j : Nat) : Int) + 256) = ((256 * j + 256 : Nat) : Int) := by rw [w64 (by omega) (by omega)]; omega
    have hne : bs[i] ≠ bs[j] := fun q => (List.pairwise_iff_getElem.1 hn) j i hj2 hi (by omega) q.symm
    rw [show k + (d + 1) + 1 = (k + d + 1) + 1 by omega]
    rw [sobriquetlaw05_RangesSmall.l2]
    rw [if_pos (by omega), ei, ei2, ej, ej2, if_pos (by omega), if_pos (by omega), if_pos (by omega), if_pos (by omega), if_pos (by omega), if_pos (by omega), Int.toNat_natCast, Int.toNat_natCast, Int.toNat_natCast, Int.toNat_natCast, hcut i hi, hcut j hj2, Ints_f _ _ _ (by rw [hl _ (List.getElem_mem hi)]; omega) (by rw [hl _ (List.getElem_mem hi)]; omega), Option.bind_some, decide_eq_false hne, if_neg (by decide), w64_nat hj2 (by omega)]
    exact ih k (j + 1) (by omega) hk
theorem Small_l1 (x0 : List S44) (hx : x0.length ≤ 60) (IX : List Int) (bs : List (List Int)) (hl : ∀ b ∈ bs, b.length = 256) (hn : bs.Nodup) (hb : bs.length ≤ 3 * x0.length + 1) : ∀ (d k i : Nat), i + d = bs.length → 300 * d + 1200000 < k → sobriquetlaw05_RangesSmall.l1 k x0 (bs.length : Int) (bs.length : Int) (i : Int) IX bs.flatten = some true := by
  intro d
  induction d with
  | zero =>
    intro k i hi hk
    obtain ⟨k, rfl⟩ : ∃ m, k = m + 1 := ⟨k - 1, by omega⟩
    have e1 : wrap64 (3 * (x0.length : Int)) = 3 * (x0.length : Int) := w64 (by omega) (by omega)
    have e2 : wrap64 (3 * (x0.length : Int) + 1) = 3 * (x0.length : Int) + 1 := w64 (by omega) (by omega)
    rw [sobriquetlaw05_RangesSmall.l1]
    rw [if_neg (by omega), if_pos rfl, e1, e2, if_pos (by omega), wakes_true k (by omega)]
    rfl
  | succ d ih =>
    intro k i hi hk
    obtain ⟨k, rfl⟩ : ∃ m, k = (m + i + 1) + 1 := ⟨k - (i + 2), by omega⟩
    have h2 := Small_l2 x0 (bs.length : Int) IX bs hl hn (by omega) i (by omega) i k 0 (by omega) (by omega)
    rw [sobriquetlaw05_RangesSmall.l1]
    rw [if_pos (by omega)]
    exact h2.trans (ih k (i + 1) (by omega) (by omega))
theorem Small_facts (L : List Go.Proofs.Ytaniolefeieliaa.Base.S44) (hR : Right L) : ∃ P, packGo 4352 L 0 [] [] = P ∧ Said L P.1 P.2 4352 ∧ P.2.length ≤ 3 * L.length + 1 ∧ P.2.Nodup ∧ (∀ x0 N BL k, sobriquetlaw05_RangesSmall.l0 (k + 4352 + 1) x0 N 0 0 P.1 BL = sobriquetlaw05_RangesSmall.l1 k x0 N ((P.2.length : Nat) : Int) 0 P.1 BL) := by
  refine ⟨_, rfl, pack_said L, pack_few L hR, go_nodup 4352 0 L [] [] List.nodup_nil, fun x0 N BL k => ?_⟩
  exact Small_l0 x0 N _ BL 4352 k 0 L [] [] rfl (by decide) (by decide) rfl
theorem RangesSmall : sobriquetlaw05_RangesSmall.Pure := by
  intro l _ _
  obtain ⟨K, hK⟩ : ∃ K : Nat, K = 1300000 := ⟨_, rfl⟩
  obtain ⟨F, hFK⟩ : ∃ F : Nat, F = K + 4352 + 1 := ⟨_, rfl⟩
  refine ⟨F, ?_⟩
  unfold sobriquetlaw05_RangesSmall.f
  by_cases h1 : (l.length : Int) > 60
  · rw [if_pos h1]
  rw [if_neg h1]
  rcases Pack_f l F (by omega) with hP | ⟨hR, hP⟩
  · rw [hP, Option.bind_some]
    dsimp only
    rw [if_neg (by decide), if_pos rfl, wakes_true _ (by omega), Option.bind_some]
  · have hml : (l.map ranges_Pack.cv).length = l.length := List.length_map ..
    have hq := Small_facts (l.map ranges_Pack.cv) hR
    revert hq
    rintro ⟨P, hPP, hS, hF, hN, h0⟩
    rw [hPP] at hP
    rw [hP, Option.bind_some]
    dsimp only
    have hfl := flat_len hS.2.1
    have e1 : wrap64 ((P.2.flatten.length : Int) / 256) = (P.2.length : Int) := by rw [hfl]; exact dm3 _ (by omega)
    have e2 : wrap64 (256 * (P.2.length : Int)) = (P.2.flatten.length : Int) := by rw [hfl, w64 (by omega) (by omega)]; omega
    rw [if_pos rfl, if_pos (by rw [hS.1]; rfl), e1, e2, if_pos rfl]
    rw [hFK]
    exact (h0 l _ _ K).trans (Small_l1 l (by omega) P.1 P.2 hS.2.1 hN (by omega) P.2.length K 0 (by omega) (by omega))

end Go.Proofs.Ytaniolefeieliaa.Pure
