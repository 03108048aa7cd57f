/- The statement RangesExact: Check, Flat, Pack, Get and Unpack return what the document says for any table, number and two-stage table. No conditions. -/
import Derived.Test.YtaniolefeieliaaVMRangesExactx10
import Derived.Test.YtaniolefeieliaaVPs
namespace Go.Proofs.Ytaniolefeieliaa.Pure
open Go.RowKit Go.Proofs.Ytaniolefeieliaa.MRangesExact Go.Proofs.YtaniolefeieliaaW.PrintWords Go.Proofs.YtaniolefeieliaaW.PrintLast
set_option linter.unusedVariables false
set_option linter.unusedSimpArgs false
set_option maxHeartbeats 1000000

theorem w64 {x : Int} (h0 : -9223372036854775808 ≤ x) (h1 : x ≤ 9223372036854775807) : wrap64 x = x := by unfold wrap64; omega
theorem w64_nat {i n : Nat} (h : i < n) (hn : n ≤ 4611686018427387904) : wrap64 ((i : Int) + 1) = ((i + 1 : Nat) : Int) := by unfold wrap64; omega
theorem rd_nat (xs : List Int) (i : Nat) (h : i < xs.length) : rd xs (i : Int) = xs[i] := by simp [rd, List.getD_eq_getElem?_getD, List.getElem?_eq_getElem h]
theorem wf64 {a : Int} (h : (Lit.int .i64 a).wf = true) : -9223372036854775808 ≤ a ∧ a ≤ 9223372036854775807 := by
  simpa [Lit.wf, show IntKind.i64.min = -9223372036854775808 from rfl] using h
theorem tdiv_nn {a : Int} (h : 0 ≤ a) (b : Int) : Int.tdiv a b = a / b := Int.tdiv_eq_ediv_of_nonneg h
theorem tmod_nn {a : Int} (h : 0 ≤ a) (b : Int) : Int.tmod a b = a % b := Int.tmod_eq_emod_of_nonneg h
theorem dec_iff (p q : Prop) [Decidable p] [Decidable q] (h : p ↔ q) : decide p = decide q := by simp [h]
theorem dec_t (p : Prop) [Decidable p] (h : p) : decide p = true := by simp [h]
theorem dec_f (p : Prop) [Decidable p] (h : ¬ p) : decide p = false := by simp [h]
theorem tmod_bd (a c : Int) (hc : 0 < c) : -c < Int.tmod a c ∧ Int.tmod a c < c := by
  have h1 := Int.emod_nonneg a (b := c) (by omega)
  have h2 := Int.emod_lt_of_pos a hc
  have h3 : ((c.natAbs : Nat) : Int) = c := by omega
  have h4 := Int.tmod_lt_of_pos a hc
  refine ⟨?_, h4⟩
  rw [Int.tmod_eq_emod]
  split
  · omega
  · rename_i h
    have : a % c ≠ 0 := fun e => h (.inr (Int.dvd_of_emod_eq_zero e))
    omega
theorem w64l (x y : Int) (h : x = y ∧ -9223372036854775808 ≤ y ∧ y ≤ 9223372036854775807) : wrap64 x = y := by rw [h.1]; exact w64 h.2.1 h.2.2

theorem Ints_l0 (a b : List Int) (hl : a.length = b.length) (hm : a.length ≤ 4611686018427387904) : ∀ (d k i : Nat), i + d = a.length → d < k → sobriquetkeep_Ints.l0 k a b (i : Int) = some (decide (a.drop i = b.drop i)) := by
  intro d
  induction d with
  | zero =>
    intro k i hi hk
    obtain ⟨k, rfl⟩ : ∃ m, k = m + 1 := ⟨k - 1, by omega⟩
    simp only [sobriquetkeep_Ints.l0]
    rw [if_neg (by omega), List.drop_eq_nil_of_le (by omega), List.drop_eq_nil_of_le (by omega)]
    simp
  | succ d ih =>
    intro k i hi hk
    obtain ⟨k, rfl⟩ : ∃ m, k = m + 1 := ⟨k - 1, by omega⟩
    have ha : i < a.length := by omega
    have hb : i < b.length := by omega
    simp only [sobriquetkeep_Ints.l0]
    rw [if_pos (by omega), if_pos (by omega), if_pos (by omega), rd_nat a i ha, rd_nat b i hb, w64_nat ha hm, ih k (i + 1) (by omega) (by omega), List.drop_eq_getElem_cons ha, List.drop_eq_getElem_cons hb]
    by_cases h : a[i] = b[i]
    · simp only [h, if_true, List.cons.injEq, true_and]
    · simp only [h, if_false, List.cons.injEq, false_and, decide_false]
theorem Ints_f (a b : List Int) (k : Nat) (hm : a.length ≤ 4611686018427387904) (hk : a.length < k) : sobriquetkeep_Ints.f k a b = some (decide (a = b)) := by
  unfold sobriquetkeep_Ints.f
  by_cases hl : a.length = b.length
  · rw [if_pos (by omega)]
    have := Ints_l0 a b hl hm a.length k 0 (by omega) hk
    simpa using this
  · rw [if_neg (by omega)]
    have : a ≠ b := fun h => hl (by rw [h])
    simp [this]

open Go.Proofs.Ytaniolefeieliaa.Pk (valF flatV flat_val flat_at flat_out Right Said pack_said go_len block_at flat_get packGo blockF check_f pack_one one one_wrong packedB wrongB badB)
theorem rdn (xs : List Int) (i : Nat) (v : Int) (h : xs[i]? = some v) : rd xs (i : Int) = v := by simp [rd, List.getD_eq_getElem?_getD, h]
theorem rdT (l : List S44) (i : Nat) (h : i < l.length) : rd_T44 l (i : Int) = l[i] := by simp [rd_T44, List.getD_eq_getElem?_getD, List.getElem?_eq_getElem h]
theorem dm1 (c : Int) (h0 : 0 ≤ c) (h1 : c ≤ 1114111) : ∃ j r : Nat, wrap64 (Int.tdiv c 256) = (j : Int) ∧ Int.tmod c 256 = (r : Int) ∧ j < 4352 ∧ r < 256 ∧ 256 * (j : Int) + (r : Int) = c := by
  refine ⟨(c / 256).toNat, (c % 256).toNat, ?_, ?_, ?_, ?_, ?_⟩
  · rw [tdiv_nn h0, w64 (by omega) (by omega)]; omega
  · rw [tmod_nn h0]; omega
  · omega
  · omega
  · omega
theorem dm2 (m n r : Nat) (hm : m < n) (hn : n ≤ 4352) (hr : r < 256) : wrap64 (wrap64 ((m : Int) * 256) + (r : Int)) = ((256 * m + r : Nat) : Int) := by
  rw [w64 (x := (m : Int) * 256) (by omega) (by omega), w64 (by omega) (by omega)]
  omega
theorem dm3 (n : Nat) (hn : n ≤ 4352) : wrap64 (((n * 256 : Nat) : Int) / 256) = (n : Int) := by
  rw [w64 (by omega) (by omega)]
  omega
theorem dm4 (m n r : Nat) (hm : m < n) (hr : r < 256) : ((256 * m + r : Nat) : Int) < ((n * 256 : Nat) : Int) := by omega
/-- What a packed table tells. -/
theorem Get_said (L : List Go.Proofs.Ytaniolefeieliaa.Base.S44) (hR : Right L) (ix : List Int) (bs : List (List Int)) (hS : Said L ix bs 4352) (hb : bs.length ≤ 4352) (c : Int) : ranges_Get.f ix bs.flatten c = some (flatV L c) := by
  obtain ⟨h1, h2, h3⟩ := hS
  have hfl := Go.Proofs.Ytaniolefeieliaa.Pk.flat_len h2
  obtain ⟨bl, hbl⟩ : ∃ bl, bl = bs.flatten := ⟨_, rfl⟩
  rw [← hbl] at hfl ⊢
  unfold ranges_Get.f
  by_cases c0 : c < 0
  · rw [if_pos c0, flat_out hR c (.inl c0)]
  rw [if_neg c0]
  by_cases c1 : c > 1114111
  · rw [if_pos c1, flat_out hR c (.inr c1)]
  rw [if_neg c1]
  obtain ⟨j, r, e1, e2, hj, hr, hc⟩ := dm1 c (Int.not_lt.1 c0) (Int.not_lt.1 c1)
  have hjl : j < ix.length := by rw [h1]; exact hj
  obtain ⟨m, hm1, hm2⟩ := h3 j hjl
  have hmb : m < bs.length := (List.getElem?_eq_some_iff.1 hm2).1
  have e3 : rd ix (j : Int) = (m : Int) := by rw [rd_nat ix j hjl]; exact hm1
  have e4 : wrap64 ((bl.length : Int) / 256) = (bs.length : Int) := by rw [hfl]; exact dm3 _ hb
  have e5 := dm2 m bs.length r hmb hb hr
  have hv := (flat_get bs m r _ h2 hm2 hr).trans (block_at L (256 * (j : Int)) r hr)
  rw [hc, ← hbl] at hv
  have g1 : ¬ ((j : Int) ≥ (ix.length : Int)) := fun h => absurd (Int.ofNat_le.1 h) (Nat.not_le.2 hjl)
  have g2 : (j : Int) < (ix.length : Int) := Int.ofNat_lt.2 hjl
  have g3 : ¬ ((m : Int) < 0) := Int.not_lt.2 (Int.natCast_nonneg _)
  have g4 : ¬ ((m : Int) ≥ (bs.length : Int)) := fun h => absurd (Int.ofNat_le.1 h) (Nat.not_le.2 hmb)
  have g5 : (0 : Int) ≤ ((256 * m + r : Nat) : Int) := Int.natCast_nonneg _
  have g6 : ((256 * m + r : Nat) : Int) < (bl.length : Int) := by rw [hfl]; exact dm4 m bs.length r hmb hr
  rw [e1, if_neg g1, if_pos (Int.natCast_nonneg _), if_pos g2, e3, if_neg g3, e4, if_neg g4, e2, e5, if_pos g5, if_pos g6, rdn _ _ _ hv, flat_val hR]
theorem Flat_l0 (l : List S44) (hm : l.length ≤ 2000) (c : Int) : ∀ (d k i : Nat), i + d = l.length → d < k → ranges_Flat.l0 k c l (l.length : Int) (i : Int) = some (flatV ((l.drop i).map ranges_Pack.cv) c) := by
  intro d
  induction d with
  | zero =>
    intro k i hi hk
    obtain ⟨k, rfl⟩ : ∃ m, k = m + 1 := ⟨k - 1, by omega⟩
    simp only [ranges_Flat.l0]
    rw [if_neg (by omega), List.drop_eq_nil_of_le (by omega)]
    rfl
  | succ d ih =>
    intro k i hi hk
    obtain ⟨k, rfl⟩ : ∃ m, k = m + 1 := ⟨k - 1, by omega⟩
    have hil : i < l.length := by omega
    simp only [ranges_Flat.l0]
    rw [if_pos (by omega), if_pos (by omega), if_pos (by omega), rdT l i hil, w64_nat hil (by omega), ih k (i + 1) (by omega) (by omega), List.drop_eq_getElem_cons hil, List.map_cons]
    have e : flatV (ranges_Pack.cv l[i] :: (l.drop (i + 1)).map ranges_Pack.cv) c = if (l[i]).f0 ≤ c then (if c ≤ (l[i]).f1 then (l[i]).f2 else flatV ((l.drop (i + 1)).map ranges_Pack.cv) c) else flatV ((l.drop (i + 1)).map ranges_Pack.cv) c := by
      unfold flatV
      rw [List.find?_cons]
      by_cases q0 : (l[i]).f0 ≤ c
      · by_cases q1 : c ≤ (l[i]).f1
        · rw [if_pos q0, if_pos q1, (Go.Proofs.Ytaniolefeieliaa.Pk.has_iff c (ranges_Pack.cv l[i])).2 ⟨q0, q1⟩]
          rfl
        · rw [if_pos q0, if_neg q1, show Go.Proofs.Ytaniolefeieliaa.Pk.hasB c (ranges_Pack.cv l[i]) = false from by rw [← Bool.not_eq_true, Go.Proofs.Ytaniolefeieliaa.Pk.has_iff]; exact fun h => q1 h.2]
      · rw [if_neg q0, show Go.Proofs.Ytaniolefeieliaa.Pk.hasB c (ranges_Pack.cv l[i]) = false from by rw [← Bool.not_eq_true, Go.Proofs.Ytaniolefeieliaa.Pk.has_iff]; exact fun h => q0 h.1]
    rw [e]
    by_cases q0 : (l[i]).f0 ≤ c
    · rw [if_pos q0, if_pos q0]
      by_cases q1 : c ≤ (l[i]).f1
      · rw [if_pos q1, if_pos q1]
      · rw [if_neg q1, if_neg q1]
    · rw [if_neg q0, if_neg q0]
theorem Flat_f (l : List S44) (hm : l.length ≤ 2000) (c : Int) (k : Nat) (hk : l.length < k) : ranges_Flat.f k l c = some (flatV (l.map ranges_Pack.cv) c) := by
  unfold ranges_Flat.f
  have := Flat_l0 l hm c l.length k 0 (by omega) hk
  simpa using this
/-- Pack: not right, or what packGo says. -/
theorem Pack_f (l : List S44) (k : Nat) (hk : l.length < k) : ranges_Pack.f k l = some ([], [], 1) ∨ (Right (l.map ranges_Pack.cv) ∧ ranges_Pack.f k l = some ((packGo 4352 (l.map ranges_Pack.cv) 0 [] []).1, (packGo 4352 (l.map ranges_Pack.cv) 0 [] []).2.flatten, 0)) := by
  have hl : (l.map ranges_Pack.cv).length = l.length := List.length_map ..
  obtain ⟨e, he1, he2, he3⟩ := check_f (l.map ranges_Pack.cv) k (by omega)
  have hf : ranges_Pack.f k l = (Go.Proofs.Ytaniolefeieliaa.Base.ranges_Check.f k (l.map ranges_Pack.cv)).bind fun e => if e = 0 then some ((packGo 4352 (l.map ranges_Pack.cv) 0 [] []).1, (packGo 4352 (l.map ranges_Pack.cv) 0 [] []).2.flatten, 0) else some ([], [], 1) := rfl
  rw [hf, he1, Option.bind_some]
  rcases he2 with rfl | rfl
  · exact .inr ⟨he3 rfl, if_pos rfl⟩
  · exact .inl (if_neg (by decide))

/-! ### wakes -/
def xo : S44 := ⟨300, 301, 7⟩
theorem one_val (c : Int) : flatV [one] c = if 300 ≤ c ∧ c ≤ 301 then 7 else 0 := by
  unfold flatV
  rw [List.find?_cons]
  by_cases h : 300 ≤ c ∧ c ≤ 301
  · rw [if_pos h, (Go.Proofs.Ytaniolefeieliaa.Pk.has_iff c one).2 h]
    rfl
  · rw [if_neg h, show Go.Proofs.Ytaniolefeieliaa.Pk.hasB c one = false from by rw [← Bool.not_eq_true, Go.Proofs.Ytaniolefeieliaa.Pk.has_iff]; exact h]
    rfl
theorem Unp_zero (ix bl : List Int) (V : Int → Int) (hV : ∀ c, ranges_Get.f ix bl c = some (V c)) : ∀ (d k c : Nat) (acc : List S44), (∀ j : Nat, c ≤ j → j < c + d → V (j : Int) = 0) → c + d ≤ 1114112 → ranges_Unpack.l0 (k + d) acc (c : Int) ix bl = ranges_Unpack.l0 k acc ((c + d : Nat) : Int) ix bl := by
  intro d
  induction d with
  | zero => intro k c acc _ _; rfl
  | succ d ih =>
    intro k c acc hv hc
    rw [show k + (d + 1) = (k + d) + 1 by omega]
    simp only [ranges_Unpack.l0]
    rw [if_pos (by omega), hV, Option.bind_some, if_pos (hv c (Nat.le_refl _) (by omega)), w64 (by omega) (by omega), show ((c : Int) + 1) = ((c + 1 : Nat) : Int) by omega, ih k (c + 1) acc (fun j h1 h2 => hv j (by omega) (by omega)) (by omega), show c + 1 + d = c + (d + 1) by omega]
theorem Unp_300 (ix bl : List Int) (hV : ∀ c, ranges_Get.f ix bl c = some (flatV [one] c)) (k : Nat) : ranges_Unpack.l0 (k + 1) [] ((300 : Nat) : Int) ix bl = ranges_Unpack.l0 k [⟨300, 300, 7⟩] ((301 : Nat) : Int) ix bl := by
  have V3 : flatV [one] ((300 : Nat) : Int) = 7 := by rw [one_val, if_pos (by omega)]
  have e1 : wrap64 (((300 : Nat) : Int) + 1) = ((301 : Nat) : Int) := by rw [w64 (by omega) (by omega)]; rfl
  simp only [ranges_Unpack.l0]
  rw [if_pos (by omega), hV, Option.bind_some, V3, if_neg (by decide), if_neg (by decide), if_neg (by decide), if_pos (by decide), e1]
  rfl
theorem Unp_301 (ix bl : List Int) (hV : ∀ c, ranges_Get.f ix bl c = some (flatV [one] c)) (k : Nat) : ranges_Unpack.l0 (k + 1) [⟨300, 300, 7⟩] ((301 : Nat) : Int) ix bl = ranges_Unpack.l0 k [xo] ((302 : Nat) : Int) ix bl := by
  have V3 : flatV [one] ((301 : Nat) : Int) = 7 := by rw [one_val, if_pos (by omega)]
  have e1 : wrap64 (((301 : Nat) : Int) + 1) = ((302 : Nat) : Int) := by rw [w64 (by omega) (by omega)]; rfl
  have e2 : wrap64 (((301 : Nat) : Int) - 1) = 300 := by rw [w64 (by omega) (by omega)]; rfl
  have e3 : wrap64 ((([⟨300, 300, 7⟩] : List S44).length : Int) - 1) = 0 := by rw [w64 (by simp) (by simp)]; rfl
  simp only [ranges_Unpack.l0]
  rw [if_pos (by omega), hV, Option.bind_some, V3, if_neg (by decide), if_pos (by decide), e3, if_pos (by decide), if_pos (by decide), e2, if_pos (by rfl), if_pos (by rfl), e1]
  rfl
theorem Unp_end (ix bl : List Int) (k : Nat) (acc : List S44) : ranges_Unpack.l0 (k + 1) acc ((1114112 : Nat) : Int) ix bl = some (acc, 0) := by
  simp only [ranges_Unpack.l0]
  rw [if_neg (by omega)]
theorem Unp_one (ix bl : List Int) (hV : ∀ c, ranges_Get.f ix bl c = some (flatV [one] c)) (k : Nat) (hk : 1114200 < k) : ranges_Unpack.l0 k [] 0 ix bl = some ([xo], 0) := by
  obtain ⟨D, hD⟩ : ∃ D : Nat, D = 1113810 := ⟨_, rfl⟩
  obtain ⟨k, rfl⟩ : ∃ m, k = m + 1 + D + 1 + 1 + 300 := ⟨k - (D + 303), by omega⟩
  have h0 := Unp_zero ix bl _ hV 300 (k + 1 + D + 1 + 1) 0 [] (fun j h1 h2 => by rw [one_val, if_neg (by omega)]) (by omega)
  have h2 := Unp_zero ix bl _ hV D (k + 1) 302 [xo] (fun j h1 h2 => by rw [one_val, if_neg (by omega)]) (by omega)
  rw [show ((0 : Nat) : Int) = 0 from rfl, show 0 + 300 = 300 from rfl] at h0
  rw [show 302 + D = 1114112 by omega] at h2
  rw [h0, Unp_300 ix bl hV, Unp_301 ix bl hV, h2]
  exact Unp_end ix bl k [xo]
theorem chk_one (j : Nat) : Go.Proofs.Ytaniolefeieliaa.Base.ranges_Check.f (j + 3) [one] = some 0 := by
  have hr : Go.Proofs.Ytaniolefeieliaa.Base.ranges_right.f 300 301 7 [] = some true := by decide +kernel
  unfold Go.Proofs.Ytaniolefeieliaa.Base.ranges_Check.f
  rw [if_neg (by decide)]
  show Go.Proofs.Ytaniolefeieliaa.Base.ranges_Check.l0 ((j + 2) + 1) [one] [one] 1 0 = _
  rw [Go.Proofs.Ytaniolefeieliaa.Base.ranges_Check.l0, if_pos (by decide), if_pos (by decide), if_pos (by decide), if_pos (by decide)]
  show (Go.Proofs.Ytaniolefeieliaa.Base.ranges_right.f 300 301 7 []).bind _ = _
  rw [hr, Option.bind_some, if_pos rfl]
  show Go.Proofs.Ytaniolefeieliaa.Base.ranges_Check.l0 ((j + 1) + 1) [one] [one] 1 (wrap64 (0 + 1)) = _
  rw [show wrap64 (0 + 1) = 1 from by rw [w64 (by omega) (by omega)]; rfl, Go.Proofs.Ytaniolefeieliaa.Base.ranges_Check.l0, if_neg (by decide)]
theorem chk_bad (j : Nat) : ranges_Check.f (j + 3) [(⟨0, 0, 0⟩ : S44)] = some 1 := by
  have hr : ranges_right.f 0 0 0 [] = some false := by decide +kernel
  unfold ranges_Check.f
  rw [if_neg (by decide)]
  show ranges_Check.l0 ((j + 2) + 1) [⟨0, 0, 0⟩] [⟨0, 0, 0⟩] 1 0 = _
  rw [ranges_Check.l0, if_pos (by decide), if_pos (by decide), if_pos (by decide), if_pos (by decide)]
  show (ranges_right.f 0 0 0 []).bind _ = _
  rw [hr, Option.bind_some, if_neg (by decide)]
theorem one_right : Right [one] := by
  refine ⟨fun x hx => ?_, List.pairwise_singleton _ _⟩
  rw [List.mem_singleton.1 hx]
  unfold Go.Proofs.Ytaniolefeieliaa.Pk.okS one
  decide
theorem wakes_true (k : Nat) (hk : 1114200 < k) : sobriquetlaw05_wakes.f k = some true := by
  obtain ⟨j, rfl⟩ : ∃ j, k = j + 3 := ⟨k - 3, by omega⟩
  have hchk : Go.Proofs.Ytaniolefeieliaa.Base.ranges_Check.f (j + 3) [one] = some 0 := chk_one j
  have hbad : ranges_Check.f (j + 3) [(⟨0, 0, 0⟩ : S44)] = some 1 := chk_bad j
  have hpk : ranges_Pack.f (j + 3) [(⟨300, 301, 7⟩ : S44)] = some ((packGo 4352 [one] 0 [] []).1, (packGo 4352 [one] 0 [] []).2.flatten, 0) := by
    show (Go.Proofs.Ytaniolefeieliaa.Base.ranges_Check.f (j + 3) [one]).bind _ = _
    rw [hchk, Option.bind_some, if_pos rfl]
    rfl
  have hS := pack_said [one]
  have hB : (packGo 4352 [one] 0 [] []).2.length ≤ 4352 := go_len 4352 0 [one] [] []
  have hV := Get_said [one] one_right _ _ hS hB
  have h1 := hS.1
  have hent := hS.2.2
  obtain ⟨ix, hix⟩ : ∃ ix, ix = (packGo 4352 [one] 0 [] []).1 := ⟨_, rfl⟩
  rw [← hix] at hpk h1 hent hV
  rw [pack_one] at hpk hent hV
  have hbl : ([List.replicate 256 0, blockF [one] 256] : List (List Int)).flatten.length = 512 := by decide +kernel
  have hpd : ranges_packed.f ix ([List.replicate 256 0, blockF [one] 256] : List (List Int)).flatten = some true := by
    show some (packedB ix _) = _
    unfold packedB
    rw [hbl, one_wrong, decide_eq_true h1]
    have : ix.any (badB ((512 / 256 : Nat) : Int)) = false := by
      rw [List.any_eq_false]
      intro x hx
      obtain ⟨i, hi, rfl⟩ := List.getElem_of_mem hx
      obtain ⟨m, hm1, hm2⟩ := hent i hi
      have hm := (List.getElem?_eq_some_iff.1 hm2).1
      simp only [List.length_cons, List.length_nil] at hm
      rw [hm1]
      unfold badB
      rw [decide_eq_false (by omega), decide_eq_false (by omega)]
      decide
    rw [this]
    decide
  have hun : ranges_Unpack.f (j + 3) ix ([List.replicate 256 0, blockF [one] 256] : List (List Int)).flatten = some ([xo], 0) := by
    unfold ranges_Unpack.f
    rw [hpd, Option.bind_some, if_pos rfl]
    exact Unp_one _ _ hV _ hk
  have V0 : flatV [one] 300 = 7 := by rw [one_val, if_pos (by omega)]
  have V2 : flatV [one] 302 = 0 := by rw [one_val, if_neg (by omega)]
  unfold sobriquetlaw05_wakes.f
  rw [hpk, Option.bind_some]
  dsimp only
  rw [hun, Option.bind_some]
  dsimp only
  rw [if_pos rfl, if_pos rfl, hV, Option.bind_some, V0, if_pos rfl, hV, Option.bind_some, V2, if_pos rfl, if_pos (by rw [h1]; rfl), if_pos (by rw [hbl]; rfl), if_pos (by rfl), if_pos (by decide), if_pos (by rfl), hbad, Option.bind_some]
  rfl

/-! ### Unpack: what a table's numbers tell -/
open Go.Proofs.Ytaniolefeieliaa.Pk (unp1 Inv inv_step inv_nil inv_few inv_right inv_val inv_pack check_ok)
theorem cv_last (acc : List S44) (h : 0 < acc.length) : (acc.map ranges_Pack.cv).getD ((acc.map ranges_Pack.cv).length - 1) ⟨0, 0, 0⟩ = ranges_Pack.cv (acc[acc.length - 1]) := by
  rw [List.getD_eq_getElem?_getD, List.length_map, List.getElem?_map, List.getElem?_eq_getElem (by omega)]
  rfl
theorem Unp_step (ix bl : List Int) (V : Int → Int) (hV : ∀ c, ranges_Get.f ix bl c = some (V c)) (acc : List S44) (ha : acc.length ≤ 1999) (c : Nat) (hc : c < 1114112) (k : Nat) : ∃ acc', ranges_Unpack.l0 (k + 1) acc (c : Int) ix bl = ranges_Unpack.l0 k acc' ((c + 1 : Nat) : Int) ix bl ∧ acc'.map ranges_Pack.cv = unp1 (acc.map ranges_Pack.cv) (c : Int) (V c) := by
  have ec : wrap64 ((c : Int) + 1) = ((c + 1 : Nat) : Int) := w64_nat hc (by omega)
  have eb : wrap64 ((c : Int) - 1) = (c : Int) - 1 := w64 (by omega) (by omega)
  have hml : (acc.map ranges_Pack.cv).length = acc.length := List.length_map ..
  unfold unp1
  rw [ranges_Unpack.l0, if_pos (by omega), hV, Option.bind_some, ec]
  by_cases h0 : V (c : Int) = 0
  · rw [if_pos h0, if_pos h0]
    exact ⟨acc, rfl, rfl⟩
  rw [if_neg h0, if_neg h0]
  by_cases hn : 0 < acc.length
  · have el : wrap64 ((acc.length : Int) - 1) = ((acc.length - 1 : Nat) : Int) := by rw [w64 (by omega) (by omega)]; omega
    rw [if_pos (show (acc.length : Int) > 0 by omega), el, if_pos (by omega), if_pos (by omega), rdT acc (acc.length - 1) (by omega), eb, cv_last acc hn]
    by_cases h1 : (acc[acc.length - 1]).f1 = (c : Int) - 1
    · rw [if_pos h1]
      by_cases h2 : (acc[acc.length - 1]).f2 = V (c : Int)
      · rw [if_pos h2, if_pos ⟨by rw [hml]; exact hn, h1, h2⟩, Int.toNat_natCast]
        refine ⟨_, rfl, ?_⟩
        rw [List.map_set, hml, h2]
        rfl
      · rw [if_neg h2, if_neg (by omega), if_pos (by omega), if_neg (fun q => h2 q.2.2)]
        exact ⟨_, rfl, by rw [List.map_append]; rfl⟩
    · rw [if_neg h1, if_neg (by omega), if_pos (by omega), if_neg (fun q => h1 q.2.1)]
      exact ⟨_, rfl, by rw [List.map_append]; rfl⟩
  · rw [if_neg (by omega), if_neg (by omega), if_pos (by omega), if_neg (fun q => hn (by rw [← hml]; exact q.1))]
    exact ⟨_, rfl, by rw [List.map_append]; rfl⟩
theorem Unp_loop (L : List Go.Proofs.Ytaniolefeieliaa.Base.S44) (hR : Right L) (hL : L.length ≤ 60) (ix bl : List Int) (hV : ∀ c, ranges_Get.f ix bl c = some (flatV L c)) (D : Nat) (hD : D = 1114112) : ∀ (d k c : Nat) (acc : List S44), c + d = D → d < k → Inv (flatV L) (acc.map ranges_Pack.cv) (c : Int) → ∃ U, ranges_Unpack.l0 k acc (c : Int) ix bl = some (U, 0) ∧ Inv (flatV L) (U.map ranges_Pack.cv) (D : Int) := by
  intro d
  induction d with
  | zero =>
    intro k c acc hc hk hI
    obtain ⟨k, rfl⟩ : ∃ m, k = m + 1 := ⟨k - 1, by omega⟩
    rw [ranges_Unpack.l0, if_neg (by omega)]
    obtain rfl : c = D := by omega
    exact ⟨acc, rfl, hI⟩
  | succ d ih =>
    intro k c acc hc hk hI
    obtain ⟨k, rfl⟩ : ∃ m, k = m + 1 := ⟨k - 1, by omega⟩
    have hf := inv_few L hR _ _ hI
    rw [List.length_map] at hf
    obtain ⟨acc', h1, h2⟩ := Unp_step ix bl _ hV acc (by omega) c (by omega) k
    rw [h1]
    refine ih k (c + 1) acc' (by omega) (by omega) ?_
    rw [h2]
    exact inv_step _ (flat_out hR _ (.inl (by decide))) _ _ (by omega) hI

/-! ### Looked up, and right or not -/
open Go.Proofs.Ytaniolefeieliaa.Pk (okS right_of)
theorem in_f (a b c : Int) : sobriquetref05_in.f a b c = some (decide (b ≤ a ∧ a ≤ c)) := by
  unfold sobriquetref05_in.f
  by_cases h : a ≥ b
  · rw [if_pos h]
    congr 1
    exact dec_iff _ _ ⟨fun q => ⟨h, q⟩, fun q => q.2⟩
  · rw [if_neg h, dec_f _ (fun q => h q.1)]
theorem Look_l0 (l : List S44) (hm : l.length ≤ 2000) (c : Int) : ∀ (d k i : Nat), i + d = l.length → d < k → sobriquetref05_Look.l0 k l c (i : Int) = ranges_Flat.l0 k c l (l.length : Int) (i : Int) := by
  intro d
  induction d with
  | zero =>
    intro k i hi hk
    obtain ⟨k, rfl⟩ : ∃ m, k = m + 1 := ⟨k - 1, by omega⟩
    rw [sobriquetref05_Look.l0, ranges_Flat.l0, if_neg (by omega), if_neg (by omega)]
  | succ d ih =>
    intro k i hi hk
    obtain ⟨k, rfl⟩ : ∃ m, k = m + 1 := ⟨k - 1, by omega⟩
    have hil : i < l.length := by omega
    have hih := ih k (i + 1) (by omega) (by omega)
    have g0 : (i : Int) < (l.length : Int) := by omega
    have g1 : (0 : Int) ≤ (i : Int) := by omega
    rw [sobriquetref05_Look.l0, ranges_Flat.l0, if_pos g0, if_pos g0, if_pos g1, if_pos g1, if_pos g0, w64_nat hil (by omega), hih]
theorem Look_f (l : List S44) (hm : l.length ≤ 2000) (c : Int) (k : Nat) (hk : l.length < k) : sobriquetref05_Look.f k l c = some (flatV (l.map ranges_Pack.cv) c) := by
  rw [← Flat_f l hm c k hk]
  unfold sobriquetref05_Look.f ranges_Flat.f
  exact Look_l0 l hm c l.length k 0 (by omega) hk
theorem get_ix (m n r : Int) (h0 : 0 ≤ m) (h1 : m < n / 256) (hn : n ≤ 5000) (hr : 0 ≤ r) (hr2 : r < 256) : wrap64 (wrap64 (m * 256) + r) = 256 * m + r ∧ wrap64 (wrap64 (256 * m) + r) = 256 * m + r ∧ 0 ≤ 256 * m + r ∧ 256 * m + r < n := by
  rw [w64 (x := m * 256) (by omega) (by omega), w64 (x := 256 * m) (by omega) (by omega), w64 (by omega) (by omega), w64 (by omega) (by omega)]
  omega
theorem dmod (c : Int) (h0 : 0 ≤ c) (h1 : c ≤ 1114111) : wrap64 (Int.tdiv c 256) = c / 256 ∧ Int.tmod c 256 = c % 256 := by
  rw [tdiv_nn h0, tmod_nn h0, w64 (by omega) (by omega)]
  exact ⟨rfl, rfl⟩
theorem Get_both (ix bl : List Int) (h1 : ix.length ≤ 5000) (h2 : bl.length ≤ 5000) (c : Int) : ∃ v, ranges_Get.f ix bl c = some v ∧ sobriquetref05_Get.f ix bl c = some v := by
  unfold ranges_Get.f sobriquetref05_Get.f
  rw [in_f, Option.bind_some]
  by_cases c0 : c < 0
  · rw [if_pos c0, dec_f _ (by omega), if_neg (by decide)]
    exact ⟨0, rfl, rfl⟩
  rw [if_neg c0]
  by_cases c1 : c > 1114111
  · rw [if_pos c1, dec_f _ (by omega), if_neg (by decide)]
    exact ⟨0, rfl, rfl⟩
  rw [if_neg c1, dec_t _ (by omega), if_pos rfl]
  obtain ⟨e1, e2⟩ := dmod c (by omega) (by omega)
  rw [e1, e2]
  by_cases g1 : c / 256 ≥ (ix.length : Int)
  · rw [if_pos g1, if_pos g1]
    exact ⟨0, rfl, rfl⟩
  have g2 : 0 ≤ c / 256 := by omega
  have g3 : c / 256 < (ix.length : Int) := by omega
  rw [if_neg g1, if_neg g1, if_pos g2, if_pos g2, if_pos g3, if_pos g3]
  by_cases g4 : rd ix (c / 256) < 0
  · rw [if_pos g4, if_pos g4]
    exact ⟨0, rfl, rfl⟩
  have e3 : wrap64 ((bl.length : Int) / 256) = (bl.length : Int) / 256 := w64 (by omega) (by omega)
  rw [if_neg g4, if_neg g4, e3]
  by_cases g5 : rd ix (c / 256) ≥ (bl.length : Int) / 256
  · rw [if_pos g5, if_pos g5]
    exact ⟨0, rfl, rfl⟩
  obtain ⟨a1, a2, a3, a4⟩ := get_ix (rd ix (c / 256)) (bl.length : Int) (c % 256) (by omega) (by omega) (by omega) (by omega) (by omega)
  rw [if_neg g5, if_neg g5, a1, a2, if_pos a3, if_pos a4]
  exact ⟨_, rfl, rfl⟩
def getV (ix bl : List Int) (c : Int) : Int := (ranges_Get.f ix bl c).getD 0
theorem Get_V (ix bl : List Int) (h1 : ix.length ≤ 5000) (h2 : bl.length ≤ 5000) (c : Int) : ranges_Get.f ix bl c = some (getV ix bl c) := by
  obtain ⟨v, h, _⟩ := Get_both ix bl h1 h2 c
  unfold getV
  rw [h]
  rfl
theorem Ranges_l0 (a : List S44) (hm : a.length ≤ 2000) : ∀ (d k i : Nat), i + d = a.length → d < k → sobriquetkeep_Ranges.l0 k a a (i : Int) = some true := by
  intro d
  induction d with
  | zero =>
    intro k i hi hk
    obtain ⟨k, rfl⟩ : ∃ m, k = m + 1 := ⟨k - 1, by omega⟩
    rw [sobriquetkeep_Ranges.l0, if_neg (by omega)]
  | succ d ih =>
    intro k i hi hk
    obtain ⟨k, rfl⟩ : ∃ m, k = m + 1 := ⟨k - 1, by omega⟩
    have hil : i < a.length := by omega
    rw [sobriquetkeep_Ranges.l0, if_pos (by omega), if_pos (by omega), if_pos (by omega), if_neg (by simp), w64_nat hil (by omega)]
    exact ih k (i + 1) (by omega) (by omega)
theorem Ranges_f (a : List S44) (hm : a.length ≤ 2000) (k : Nat) (hk : a.length < k) : sobriquetkeep_Ranges.f k a a = some true := by
  unfold sobriquetkeep_Ranges.f
  rw [if_pos rfl]
  exact Ranges_l0 a hm a.length k 0 (by omega) hk
/-! ### Right or not -/
theorem cv_rd (p : List S44) (i : Int) : Go.Proofs.Ytaniolefeieliaa.Base.rd_T44 (p.map ranges_Pack.cv) i = ranges_Pack.cv (rd_T44 p i) := by
  unfold Go.Proofs.Ytaniolefeieliaa.Base.rd_T44 rd_T44
  rw [List.getD_eq_getElem?_getD, List.getD_eq_getElem?_getD, List.getElem?_map]
  cases p[i.toNat]? with
  | none => rfl
  | some x => rfl
theorem right_same (a b c : Int) (p : List S44) : ranges_right.f a b c p = Go.Proofs.Ytaniolefeieliaa.Base.ranges_right.f a b c (p.map ranges_Pack.cv) := by
  unfold ranges_right.f Go.Proofs.Ytaniolefeieliaa.Base.ranges_right.f
  rw [List.length_map, cv_rd]
  rfl
theorem check_same0 (l : List S44) (n : Int) : ∀ (k : Nat) (i : Int), ranges_Check.l0 k l l n i = Go.Proofs.Ytaniolefeieliaa.Base.ranges_Check.l0 k (l.map ranges_Pack.cv) (l.map ranges_Pack.cv) n i
  | 0, _ => rfl
  | k + 1, i => by
    rw [ranges_Check.l0, Go.Proofs.Ytaniolefeieliaa.Base.ranges_Check.l0, List.length_map, cv_rd, right_same, List.map_take, check_same0 l n k]
    rfl
theorem check_same (k : Nat) (l : List S44) : ranges_Check.f k l = Go.Proofs.Ytaniolefeieliaa.Base.ranges_Check.f k (l.map ranges_Pack.cv) := by
  unfold ranges_Check.f Go.Proofs.Ytaniolefeieliaa.Base.ranges_Check.f
  rw [List.length_map, check_same0]
theorem check_no (L : List Go.Proofs.Ytaniolefeieliaa.Base.S44) (hR : ¬ Right L) (k : Nat) (hk : L.length < k) : Go.Proofs.Ytaniolefeieliaa.Base.ranges_Check.f k L = some 1 := by
  obtain ⟨e, h1, h2, h3⟩ := check_f L k hk
  rcases h2 with rfl | rfl
  · exact absurd (h3 rfl) hR
  · exact h1
theorem Pack_yes (l : List S44) (hm : l.length ≤ 2000) (hR : Right (l.map ranges_Pack.cv)) (k : Nat) (hk : l.length < k) : ranges_Pack.f k l = some ((packGo 4352 (l.map ranges_Pack.cv) 0 [] []).1, (packGo 4352 (l.map ranges_Pack.cv) 0 [] []).2.flatten, 0) := by
  have hf : ranges_Pack.f k l = (Go.Proofs.Ytaniolefeieliaa.Base.ranges_Check.f k (l.map ranges_Pack.cv)).bind fun e => if e = 0 then some ((packGo 4352 (l.map ranges_Pack.cv) 0 [] []).1, (packGo 4352 (l.map ranges_Pack.cv) 0 [] []).2.flatten, 0) else some ([], [], 1) := rfl
  rw [hf, check_ok _ (by rw [List.length_map]; exact hm) hR k (by rw [List.length_map]; exact hk), Option.bind_some, if_pos rfl]
theorem Pack_no (l : List S44) (hR : ¬ Right (l.map ranges_Pack.cv)) (k : Nat) (hk : l.length < k) : ranges_Pack.f k l = some ([], [], 1) := by
  have hf : ranges_Pack.f k l = (Go.Proofs.Ytaniolefeieliaa.Base.ranges_Check.f k (l.map ranges_Pack.cv)).bind fun e => if e = 0 then some ((packGo 4352 (l.map ranges_Pack.cv) 0 [] []).1, (packGo 4352 (l.map ranges_Pack.cv) 0 [] []).2.flatten, 0) else some ([], [], 1) := rfl
  rw [hf, check_no _ hR k (by rw [List.length_map]; exact hk), Option.bind_some, if_neg (by decide)]
theorem RFlat_l0 (l : List S44) (hm : l.length ≤ 2000) : ∀ (d k i : Nat), i + d = l.length → d < k → ∃ b, sobriquetref05_Flat.l0 k l (i : Int) = some b ∧ (b = true ↔ ∀ j (h : j < l.length), i ≤ j → okS (ranges_Pack.cv l[j]) ∧ ∀ (h0 : 0 < j), (l[j - 1]).f1 < (l[j]).f0) := by
  intro d
  induction d with
  | zero =>
    intro k i hi hk
    obtain ⟨k, rfl⟩ : ∃ m, k = m + 1 := ⟨k - 1, by omega⟩
    rw [sobriquetref05_Flat.l0, if_neg (by omega)]
    exact ⟨true, rfl, fun _ j h hj => by omega, fun _ => rfl⟩
  | succ d ih =>
    intro k i hi hk
    obtain ⟨k, rfl⟩ : ∃ m, k = m + 1 := ⟨k - 1, by omega⟩
    have hil : i < l.length := by omega
    obtain ⟨b, hb1, hb2⟩ := ih k (i + 1) (by omega) (by omega)
    have hno : ∀ (p : Prop), p → (okS (ranges_Pack.cv l[i]) ∧ (∀ (h0 : 0 < i), (l[i - 1]).f1 < (l[i]).f0) → ¬ p) → ∃ b, some false = some b ∧ (b = true ↔ ∀ j (h : j < l.length), i ≤ j → okS (ranges_Pack.cv l[j]) ∧ ∀ (h0 : 0 < j), (l[j - 1]).f1 < (l[j]).f0) := fun p hp hn =>
      ⟨false, rfl, fun q => (by cases q), fun q => absurd hp (hn (q i hil (Nat.le_refl _)))⟩
    have hyes : okS (ranges_Pack.cv l[i]) → (∀ (h0 : 0 < i), (l[i - 1]).f1 < (l[i]).f0) → ∃ b, sobriquetref05_Flat.l0 k l ((i + 1 : Nat) : Int) = some b ∧ (b = true ↔ ∀ j (h : j < l.length), i ≤ j → okS (ranges_Pack.cv l[j]) ∧ ∀ (h0 : 0 < j), (l[j - 1]).f1 < (l[j]).f0) := fun h1 h2 => by
      refine ⟨b, hb1, hb2.trans ⟨fun q j h hj => ?_, fun q j h hj => q j h (by omega)⟩⟩
      by_cases e : j = i
      · subst e; exact ⟨h1, h2⟩
      · exact q j h (by omega)
    unfold okS at hno hyes
    have e0 : (ranges_Pack.cv l[i]).f0 = (l[i]).f0 := rfl
    have e1 : (ranges_Pack.cv l[i]).f1 = (l[i]).f1 := rfl
    have e2 : (ranges_Pack.cv l[i]).f2 = (l[i]).f2 := rfl
    rw [e0, e1, e2] at hno hyes
    unfold okS
    rw [sobriquetref05_Flat.l0, if_pos (by omega), if_pos (by omega), rdT l i hil, in_f, Option.bind_some]
    by_cases q0 : 0 ≤ (l[i]).f0 ∧ (l[i]).f0 ≤ 1114111
    rotate_left
    · rw [dec_f _ q0, if_neg (by decide)]
      exact hno _ q0 (fun h q => q (by omega))
    rw [dec_t _ q0, if_pos rfl, in_f, Option.bind_some]
    by_cases q1 : (l[i]).f0 ≤ (l[i]).f1 ∧ (l[i]).f1 ≤ 1114111
    rotate_left
    · rw [dec_f _ q1, if_neg (by decide)]
      exact hno _ q1 (fun h q => q (by omega))
    rw [dec_t _ q1, if_pos rfl, in_f, Option.bind_some]
    by_cases q2 : 1 ≤ (l[i]).f2 ∧ (l[i]).f2 ≤ 65535
    rotate_left
    · rw [dec_f _ q2, if_neg (by decide)]
      exact hno _ q2 (fun h q => q (by omega))
    rw [dec_t _ q2, if_pos rfl]
    by_cases q3 : (i : Int) > 0
    · have hi2 : i - 1 < l.length := by omega
      have e3 : wrap64 ((i : Int) - 1) = ((i - 1 : Nat) : Int) := by rw [w64 (by omega) (by omega)]; omega
      rw [if_pos q3, e3, if_pos (by omega), if_pos (by omega), rdT l (i - 1) hi2]
      by_cases q4 : (l[i]).f0 ≤ (l[i - 1]).f1
      · rw [if_pos q4]
        exact hno _ q4 (fun h q => by have := h.2 (by omega); omega)
      · rw [if_neg q4, w64_nat hil (by omega)]
        exact hyes (by omega) (fun _ => by omega)
    · rw [if_neg q3, w64_nat hil (by omega)]
      exact hyes (by omega) (fun h => by omega)
theorem RFlat_f (l : List S44) (hm : l.length ≤ 2000) (k : Nat) (hk : l.length < k) : ∃ b, sobriquetref05_Flat.f k l = some b ∧ (b = true ↔ Right (l.map ranges_Pack.cv)) := by
  unfold sobriquetref05_Flat.f
  rw [if_neg (by omega)]
  obtain ⟨b, h1, h2⟩ := RFlat_l0 l hm l.length k 0 (by omega) hk
  refine ⟨b, h1, h2.trans ⟨fun h => right_of _ (fun j hj => ?_), fun h j hj _ => ?_⟩⟩
  · rw [List.length_map] at hj
    have := h j hj (Nat.zero_le _)
    refine ⟨by rw [List.getElem_map]; exact this.1, fun h0 => ?_⟩
    rw [List.getElem_map, List.getElem_map]
    exact this.2 h0
  · have hj2 : j < (l.map ranges_Pack.cv).length := by rw [List.length_map]; exact hj
    have a := h.1 _ (List.getElem_mem hj2)
    rw [List.getElem_map] at a
    refine ⟨a, fun h0 => ?_⟩
    have c := (List.pairwise_iff_getElem.1 h.2) (j - 1) j (by omega) hj2 (by omega)
    rw [List.getElem_map, List.getElem_map] at c
    exact c

/-! ### Taken apart: Unpack and the page's -/
open Go.Proofs.Ytaniolefeieliaa.Pk (unpA unp1_len unpA_len unpA_add)
theorem Unp_step2 (ix bl : List Int) (V : Int → Int) (hV : ∀ c, ranges_Get.f ix bl c = some (V c)) (acc : List S44) (ha : acc.length ≤ 2000) (c : Nat) (hc : c < 1114112) (k : Nat) : (∃ acc', ranges_Unpack.l0 (k + 1) acc (c : Int) ix bl = ranges_Unpack.l0 k acc' ((c + 1 : Nat) : Int) ix bl ∧ acc'.map ranges_Pack.cv = unp1 (acc.map ranges_Pack.cv) (c : Int) (V c) ∧ acc'.length ≤ 2000) ∨ (ranges_Unpack.l0 (k + 1) acc (c : Int) ix bl = some ([], 1) ∧ 2000 < (unp1 (acc.map ranges_Pack.cv) (c : Int) (V c)).length) := by
  by_cases h19 : acc.length ≤ 1999
  · obtain ⟨acc', h1, h2⟩ := Unp_step ix bl V hV acc h19 c hc k
    refine .inl ⟨acc', h1, h2, ?_⟩
    have := (unp1_len (acc.map ranges_Pack.cv) (c : Int) (V c)).2
    rw [← h2, List.length_map, List.length_map] at this
    omega
  have h20 : acc.length = 2000 := by omega
  have ec : wrap64 ((c : Int) + 1) = ((c + 1 : Nat) : Int) := w64_nat hc (by omega)
  have eb : wrap64 ((c : Int) - 1) = (c : Int) - 1 := w64 (by omega) (by omega)
  have hml : (acc.map ranges_Pack.cv).length = acc.length := List.length_map ..
  unfold unp1
  rw [ranges_Unpack.l0, if_pos (by omega), hV, Option.bind_some, ec]
  by_cases h0 : V (c : Int) = 0
  · rw [if_pos h0, if_pos h0]
    exact .inl ⟨acc, rfl, rfl, ha⟩
  rw [if_neg h0, if_neg h0]
  have el : wrap64 ((acc.length : Int) - 1) = ((acc.length - 1 : Nat) : Int) := by rw [w64 (by omega) (by omega)]; omega
  rw [if_pos (show (acc.length : Int) > 0 by omega), el, if_pos (by omega), if_pos (by omega), rdT acc (acc.length - 1) (by omega), eb, cv_last acc (by omega)]
  by_cases h1 : (acc[acc.length - 1]).f1 = (c : Int) - 1
  · rw [if_pos h1]
    by_cases h2 : (acc[acc.length - 1]).f2 = V (c : Int)
    · rw [if_pos h2, if_pos ⟨by rw [hml]; omega, h1, h2⟩, Int.toNat_natCast]
      refine .inl ⟨_, rfl, ?_, by rw [List.length_set]; omega⟩
      rw [List.map_set, hml, h2]
      rfl
    · rw [if_neg h2, if_pos (by omega), if_neg (fun q => h2 q.2.2)]
      exact .inr ⟨rfl, by rw [List.length_append, hml, List.length_singleton]; omega⟩
  · rw [if_neg h1, if_pos (by omega), if_neg (fun q => h1 q.2.1)]
    exact .inr ⟨rfl, by rw [List.length_append, hml, List.length_singleton]; omega⟩
theorem Prg_loop (ix bl : List Int) (V : Int → Int) (hV : ∀ c, ranges_Get.f ix bl c = some (V c)) (D : Nat) (hD : D = 1114112) : ∀ (d k c : Nat) (acc : List S44), c + d = D → d < k → acc.length ≤ 2000 → ∃ r, ranges_Unpack.l0 k acc (c : Int) ix bl = some r ∧ ((unpA V d (c : Int) (acc.map ranges_Pack.cv)).length ≤ 2000 → r.1.map ranges_Pack.cv = unpA V d (c : Int) (acc.map ranges_Pack.cv) ∧ r.2 = 0) ∧ (2000 < (unpA V d (c : Int) (acc.map ranges_Pack.cv)).length → r = ([], 1)) := by
  intro d
  induction d with
  | zero =>
    intro k c acc hc hk ha
    obtain ⟨k, rfl⟩ : ∃ m, k = m + 1 := ⟨k - 1, by omega⟩
    rw [ranges_Unpack.l0, if_neg (by omega)]
    refine ⟨_, rfl, fun _ => ⟨rfl, rfl⟩, fun q => ?_⟩
    replace q : 2000 < (acc.map ranges_Pack.cv).length := q
    rw [List.length_map] at q
    omega
  | succ d ih =>
    intro k c acc hc hk ha
    obtain ⟨k, rfl⟩ : ∃ m, k = m + 1 := ⟨k - 1, by omega⟩
    have ec : (c : Int) + 1 = ((c + 1 : Nat) : Int) := by omega
    have eu : unpA V (d + 1) (c : Int) (acc.map ranges_Pack.cv) = unpA V d ((c : Int) + 1) (unp1 (acc.map ranges_Pack.cv) (c : Int) (V c)) := rfl
    rw [eu]
    rcases Unp_step2 ix bl V hV acc ha c (by omega) k with ⟨acc', h1, h2, h3⟩ | ⟨h1, h2⟩
    · rw [h1, ← h2, ec]
      exact ih k (c + 1) acc' (by omega) (by omega) h3
    · rw [h1]
      have := unpA_len V d ((c : Int) + 1) (unp1 (acc.map ranges_Pack.cv) (c : Int) (V c))
      exact ⟨_, rfl, fun q => by omega, fun _ => rfl⟩
/-! the page's -/
def okI (ix bl : List Int) (kk : Nat) : Prop := 0 ≤ rd ix (kk : Int) ∧ rd ix (kk : Int) < ((bl.length / 256 : Nat) : Int)
theorem getV_in (ix bl : List Int) (h1 : ix.length = 4352) (h2 : bl.length ≤ 5000) (kk j c : Nat) (hc : c = 256 * kk + j) (hk : kk < 4352) (hj : j < 256) (hok : okI ix bl kk) : wrap64 (wrap64 (256 * (rd ix (kk : Int))) + (j : Int)) = 256 * rd ix (kk : Int) + (j : Int) ∧ 0 ≤ 256 * rd ix (kk : Int) + (j : Int) ∧ 256 * rd ix (kk : Int) + (j : Int) < (bl.length : Int) ∧ rd bl (256 * rd ix (kk : Int) + (j : Int)) = getV ix bl (c : Int) := by
  obtain ⟨o1, o2⟩ := hok
  obtain ⟨a1, a2, a3, a4⟩ := get_ix (rd ix (kk : Int)) (bl.length : Int) (j : Int) o1 (by omega) (by omega) (by omega) (by omega)
  refine ⟨a2, a3, a4, ?_⟩
  have n1 : ¬ (c : Int) < 0 := by omega
  have n2 : ¬ (c : Int) > 1114111 := by omega
  have n3 : ¬ (kk : Int) ≥ (ix.length : Int) := by omega
  have n4 : (0 : Int) ≤ (kk : Int) := by omega
  have n5 : (kk : Int) < (ix.length : Int) := by omega
  have n6 : ¬ rd ix (kk : Int) < 0 := by omega
  have n7 : ¬ rd ix (kk : Int) ≥ (bl.length : Int) / 256 := by omega
  have e3 : (c : Int) / 256 = (kk : Int) := by omega
  have e4 : (c : Int) % 256 = (j : Int) := by omega
  have e5 : wrap64 ((bl.length : Int) / 256) = (bl.length : Int) / 256 := w64 (by omega) (by omega)
  obtain ⟨e1, e2⟩ := dmod (c : Int) (by omega) (by omega)
  rw [e3] at e1
  rw [e4] at e2
  unfold getV ranges_Get.f
  rw [e1, e2, e5, if_neg n1, if_neg n2, if_neg n3, if_pos n4, if_pos n5, if_neg n6, if_neg n7, a1, if_pos a3, if_pos a4, Option.getD_some]
theorem w_pred (c kk j : Nat) (hc : c = 256 * kk + j) (hk : kk < 4352) (hj : j < 256) : wrap64 ((c : Int) - 1) = (c : Int) - 1 := by
  have h : c < 1114112 := by omega
  clear hc hk hj
  exact w64 (by omega) (by omega)
theorem w_two (c kk j : Nat) (hc : c = 256 * kk + j) (hk : kk < 4352) (hj : j < 256) : wrap64 (wrap64 (256 * (kk : Int)) + (j : Int)) = (c : Int) := by
  have h : c < 1114112 := by omega
  rw [w64 (x := 256 * (kk : Int)) (by omega) (by omega), show 256 * (kk : Int) + (j : Int) = (c : Int) by omega]
  exact w64 (by omega) (by omega)
theorem RU_step (ix bl : List Int) (h1 : ix.length = 4352) (h2 : bl.length ≤ 5000) (acc : List S44) (ha : acc.length ≤ 10000000) (kk j c : Nat) (hc : c = 256 * kk + j) (hk : kk < 4352) (hj : j < 256) (hok : okI ix bl kk) (k : Nat) : ∃ acc', acc'.map ranges_Pack.cv = unp1 (acc.map ranges_Pack.cv) (c : Int) (getV ix bl (c : Int)) ∧ (sobriquetref05_Unpack.l2 (k + 1) acc (kk : Int) (j : Int) ix bl = sobriquetref05_Unpack.l2 k acc' (kk : Int) ((j + 1 : Nat) : Int) ix bl ∨ (sobriquetref05_Unpack.l2 (k + 1) acc (kk : Int) (j : Int) ix bl = sobriquetref05_Unpack.l1 k acc' ((kk + 1 : Nat) : Int) ix bl ∧ 2000 < acc'.length)) := by
  have hml : (acc.map ranges_Pack.cv).length = acc.length := List.length_map ..
  have hfin : ∀ acc' : List S44, ((if (acc'.length : Int) > 2001 then (sobriquetref05_Unpack.l1 k acc' ((kk + 1 : Nat) : Int) ix bl) else (sobriquetref05_Unpack.l2 k acc' (kk : Int) ((j + 1 : Nat) : Int) ix bl)) = sobriquetref05_Unpack.l2 k acc' (kk : Int) ((j + 1 : Nat) : Int) ix bl ∨ ((if (acc'.length : Int) > 2001 then (sobriquetref05_Unpack.l1 k acc' ((kk + 1 : Nat) : Int) ix bl) else (sobriquetref05_Unpack.l2 k acc' (kk : Int) ((j + 1 : Nat) : Int) ix bl)) = sobriquetref05_Unpack.l1 k acc' ((kk + 1 : Nat) : Int) ix bl ∧ 2000 < acc'.length)) := fun acc' => by
    by_cases q : (acc'.length : Int) > 2001
    · rw [if_pos q]; exact .inr ⟨rfl, by omega⟩
    · rw [if_neg q]; exact .inl rfl
  have hlt : acc.length < 5864062014805 := by omega
  have hn1 : ¬ 0 < acc.length → ¬ (acc.length : Int) > 0 := fun h => by omega
  have n1 : (j : Int) < 256 := by omega
  have n2 : (0 : Int) ≤ (kk : Int) := by omega
  have n3 : (kk : Int) < (ix.length : Int) := by omega
  have hcs : wrap64 (wrap64 (256 * (kk : Int)) + (j : Int)) = (c : Int) := w_two c kk j hc hk hj
  have ej : wrap64 ((j : Int) + 1) = ((j + 1 : Nat) : Int) := w64_nat hj (by decide)
  have ek : wrap64 ((kk : Int) + 1) = ((kk + 1 : Nat) : Int) := w64_nat hk (by decide)
  have eb : wrap64 ((c : Int) - 1) = (c : Int) - 1 := w_pred c kk j hc hk hj
  obtain ⟨a1, a2, a3, a4⟩ := getV_in ix bl h1 h2 kk j c hc hk hj hok
  obtain ⟨v, hv⟩ : ∃ v, v = getV ix bl (c : Int) := ⟨_, rfl⟩
  rw [← hv] at a4 ⊢
  rw [sobriquetref05_Unpack.l2, if_pos n1, if_pos n2, if_pos n3, a1, if_pos a2, if_pos a3, a4, hcs, ej, ek, eb]
  clear a1 a2 a3 a4 hcs ej ek eb
  unfold unp1
  by_cases h0 : v = 0
  · rw [if_pos h0, if_pos h0]
    exact ⟨acc, rfl, .inl rfl⟩
  rw [if_neg h0, if_neg h0]
  by_cases hn : 0 < acc.length
  · have el : wrap64 ((acc.length : Int) - 1) = ((acc.length - 1 : Nat) : Int) := by rw [w64 (by omega) (by omega)]; omega
    rw [if_pos (show (acc.length : Int) > 0 by omega), el, if_pos (show (0 : Int) ≤ ((acc.length - 1 : Nat) : Int) by omega), if_pos (show ((acc.length - 1 : Nat) : Int) < (acc.length : Int) by omega), rdT acc (acc.length - 1) (by omega), cv_last acc hn]
    by_cases g1 : (acc[acc.length - 1]).f1 = (c : Int) - 1
    · rw [if_pos g1]
      by_cases g2 : (acc[acc.length - 1]).f2 = v
      · rw [if_pos g2, if_pos ⟨by rw [hml]; exact hn, g1, g2⟩, Option.bind_some, Int.toNat_natCast]
        refine ⟨acc.set (acc.length - 1) ⟨(acc[acc.length - 1]).f0, (c : Int), (acc[acc.length - 1]).f2⟩, ?_, ?_⟩
        · rw [List.map_set, hml, g2]
          rfl
        · have := hfin (acc.set (acc.length - 1) ⟨(acc[acc.length - 1]).f0, (c : Int), (acc[acc.length - 1]).f2⟩)
          rw [List.length_set] at this ⊢
          exact this
      · rw [if_neg g2, if_pos hlt, if_neg (fun q => g2 q.2.2), Option.bind_some]
        exact ⟨acc ++ [⟨c, c, v⟩], by rw [List.map_append]; rfl, hfin _⟩
    · rw [if_neg g1, if_pos hlt, if_neg (fun q => g1 q.2.1), Option.bind_some]
      exact ⟨acc ++ [⟨c, c, v⟩], by rw [List.map_append]; rfl, hfin _⟩
  · rw [if_neg (hn1 hn), if_pos hlt, if_neg (fun q => hn (by rw [← hml]; exact q.1)), Option.bind_some]
    exact ⟨acc ++ [⟨c, c, v⟩], by rw [List.map_append]; rfl, hfin _⟩
theorem RU_block (M B : Nat) (hM : M = 10000000) (hB : B = 256) (ix bl : List Int) (h1 : ix.length = 4352) (h2 : bl.length ≤ 5000) (kk : Nat) (hk : kk < 4352) (hok : okI ix bl kk) : ∀ (d k j c : Nat) (acc : List S44), c = 256 * kk + j → j + d = B → d < k → acc.length + d ≤ M → ∃ k' acc', k ≤ k' + d + 1 ∧ sobriquetref05_Unpack.l2 k acc (kk : Int) (j : Int) ix bl = sobriquetref05_Unpack.l1 k' acc' ((kk + 1 : Nat) : Int) ix bl ∧ acc'.length ≤ acc.length + d ∧ (acc'.map ranges_Pack.cv = unpA (getV ix bl) d (c : Int) (acc.map ranges_Pack.cv) ∨ (2000 < acc'.length ∧ 2000 < (unpA (getV ix bl) d (c : Int) (acc.map ranges_Pack.cv)).length)) := by
  intro d
  induction d with
  | zero =>
    intro k j c acc hc hj hkk ha
    obtain ⟨k, rfl⟩ : ∃ m, k = m + 1 := ⟨k - 1, by omega⟩
    rw [sobriquetref05_Unpack.l2, if_neg (by omega), w64_nat hk (by omega)]
    exact ⟨k, acc, by omega, rfl, by omega, .inl rfl⟩
  | succ d ih =>
    intro k j c acc hc hj hkk ha
    obtain ⟨k, rfl⟩ : ∃ m, k = m + 1 := ⟨k - 1, by omega⟩
    obtain ⟨acc1, g1, g2⟩ := RU_step ix bl h1 h2 acc (by omega) kk j c hc hk (by omega) hok k
    have hl : acc1.length ≤ acc.length + 1 := by
      have := (unp1_len (acc.map ranges_Pack.cv) (c : Int) (getV ix bl (c : Int))).2
      rw [← g1, List.length_map, List.length_map] at this
      exact this
    have ec : (c : Int) + 1 = ((c + 1 : Nat) : Int) := by omega
    have eu : unpA (getV ix bl) (d + 1) (c : Int) (acc.map ranges_Pack.cv) = unpA (getV ix bl) d ((c + 1 : Nat) : Int) (acc1.map ranges_Pack.cv) := by
      rw [g1, ← ec]
      rfl
    rw [eu]
    rcases g2 with g2 | ⟨g2, g3⟩
    · obtain ⟨k', acc', i1, i2, i3, i4⟩ := ih k (j + 1) (c + 1) acc1 (by omega) (by omega) (by omega) (by omega)
      exact ⟨k', acc', by omega, g2.trans i2, by omega, i4⟩
    · refine ⟨k, acc1, by omega, g2, by omega, .inr ⟨g3, ?_⟩⟩
      have := unpA_len (getV ix bl) d ((c + 1 : Nat) : Int) (acc1.map ranges_Pack.cv)
      rw [List.length_map] at this
      omega
theorem RU_no (M B : Nat) (hM : M = 10000000) (hB : B = 256) (ix bl : List Int) (h1 : ix.length = 4352) (h2 : bl.length ≤ 5000) : ∀ (d k kk : Nat) (acc : List S44), kk + d = 4352 → 300 * d < k → acc.length + 256 * d ≤ M → (2000 < acc.length ∨ ∃ q, kk ≤ q ∧ q < 4352 ∧ ¬ okI ix bl q) → sobriquetref05_Unpack.l1 k acc (kk : Int) ix bl = some ([], false) := by
  intro d
  induction d with
  | zero =>
    intro k kk acc hd hk ha hq
    obtain ⟨k, rfl⟩ : ∃ m, k = m + 1 := ⟨k - 1, by omega⟩
    rw [sobriquetref05_Unpack.l1, if_neg (by omega)]
    rcases hq with hq | ⟨q, q1, q2, _⟩
    · rw [if_pos (by omega)]
    · omega
  | succ d ih =>
    intro k kk acc hd hk ha hq
    obtain ⟨k, rfl⟩ : ∃ m, k = m + 1 := ⟨k - 1, by omega⟩
    have e5 : wrap64 (wrap64 ((bl.length : Int) / 256) - 1) = ((bl.length / 256 : Nat) : Int) - 1 := by rw [w64 (x := (bl.length : Int) / 256) (by omega) (by omega), w64 (by omega) (by omega)]; omega
    rw [sobriquetref05_Unpack.l1, if_pos (by omega), if_pos (by omega), if_pos (by omega), e5, in_f, Option.bind_some]
    by_cases hok : okI ix bl kk
    · rw [dec_t _ (by unfold okI at hok; omega), if_pos rfl]
      obtain ⟨k', acc', i1, i2, i3, i4⟩ := RU_block M B hM hB ix bl h1 h2 kk (by omega) hok B k 0 (256 * kk) acc (by omega) (by omega) (by omega) (by omega)
      refine i2.trans (ih k' (kk + 1) acc' (by omega) (by omega) (by omega) ?_)
      rcases hq with hq | ⟨q, q1, q2, q3⟩
      · left
        rcases i4 with i4 | ⟨i4, _⟩
        · have := unpA_len (getV ix bl) B ((256 * kk : Nat) : Int) (acc.map ranges_Pack.cv)
          rw [← i4, List.length_map, List.length_map] at this
          omega
        · exact i4
      · right
        refine ⟨q, ?_, q2, q3⟩
        by_cases e : q = kk
        · exact absurd (e ▸ hok) q3
        · omega
    · rw [dec_f _ (by unfold okI at hok; omega), if_neg (by decide)]
theorem RU_yes (M B : Nat) (hM : M = 10000000) (hB : B = 256) (ix bl : List Int) (h1 : ix.length = 4352) (h2 : bl.length ≤ 5000) (hok : ∀ q, q < 4352 → okI ix bl q) : ∀ (d k kk : Nat) (acc : List S44), kk + d = 4352 → 300 * d < k → acc.length + 256 * d ≤ M → ∃ r, sobriquetref05_Unpack.l1 k acc (kk : Int) ix bl = some r ∧ ((unpA (getV ix bl) (256 * d) ((256 * kk : Nat) : Int) (acc.map ranges_Pack.cv)).length ≤ 2000 → r.1.map ranges_Pack.cv = unpA (getV ix bl) (256 * d) ((256 * kk : Nat) : Int) (acc.map ranges_Pack.cv) ∧ r.2 = true) ∧ (2000 < (unpA (getV ix bl) (256 * d) ((256 * kk : Nat) : Int) (acc.map ranges_Pack.cv)).length → r = ([], false)) := by
  intro d
  induction d with
  | zero =>
    intro k kk acc hd hk ha
    obtain ⟨k, rfl⟩ : ∃ m, k = m + 1 := ⟨k - 1, by omega⟩
    have e : unpA (getV ix bl) (256 * 0) ((256 * kk : Nat) : Int) (acc.map ranges_Pack.cv) = acc.map ranges_Pack.cv := rfl
    rw [e, List.length_map, sobriquetref05_Unpack.l1, if_neg (by omega)]
    by_cases q : (acc.length : Int) > 2000
    · rw [if_pos q]
      exact ⟨_, rfl, fun h => by omega, fun _ => rfl⟩
    · rw [if_neg q]
      exact ⟨_, rfl, fun _ => ⟨rfl, rfl⟩, fun h => by omega⟩
  | succ d ih =>
    intro k kk acc hd hk ha
    obtain ⟨k, rfl⟩ : ∃ m, k = m + 1 := ⟨k - 1, by omega⟩
    have hq := hok kk (by omega)
    have hq2 : 0 ≤ rd ix (kk : Int) ∧ rd ix (kk : Int) ≤ ((bl.length / 256 : Nat) : Int) - 1 := ⟨hq.1, by have := hq.2; omega⟩
    have e5 : wrap64 (wrap64 ((bl.length : Int) / 256) - 1) = ((bl.length / 256 : Nat) : Int) - 1 := by rw [w64 (x := (bl.length : Int) / 256) (by omega) (by omega), w64 (by omega) (by omega)]; omega
    rw [sobriquetref05_Unpack.l1, if_pos (by omega), if_pos (by omega), if_pos (by omega), e5, in_f, Option.bind_some, dec_t _ hq2, if_pos rfl]
    obtain ⟨k', acc', i1, i2, i3, i4⟩ := RU_block M B hM hB ix bl h1 h2 kk (by omega) hq B k 0 (256 * kk) acc (by omega) (by omega) (by omega) (by omega)
    have e0 : ((0 : Nat) : Int) = 0 := rfl
    rw [e0] at i2
    rw [i2]
    have ea : unpA (getV ix bl) (256 * (d + 1)) ((256 * kk : Nat) : Int) (acc.map ranges_Pack.cv) = unpA (getV ix bl) (256 * d) ((256 * (kk + 1) : Nat) : Int) (unpA (getV ix bl) B ((256 * kk : Nat) : Int) (acc.map ranges_Pack.cv)) := by
      rw [show 256 * (d + 1) = B + 256 * d by omega, unpA_add, show ((256 * kk : Nat) : Int) + (B : Int) = ((256 * (kk + 1) : Nat) : Int) by omega]
    rw [ea]
    rcases i4 with i4 | ⟨i4, i5⟩
    · rw [← i4]
      exact ih k' (kk + 1) acc' (by omega) (by omega) (by omega)
    · have := unpA_len (getV ix bl) (256 * d) ((256 * (kk + 1) : Nat) : Int) (unpA (getV ix bl) B ((256 * kk : Nat) : Int) (acc.map ranges_Pack.cv))
      refine ⟨([], false), RU_no M B hM hB ix bl h1 h2 d k' (kk + 1) acc' (by omega) (by omega) (by omega) (.inl i4), fun h => by omega, fun _ => rfl⟩
theorem RU_l0 (ix bl : List Int) (h2 : bl.length ≤ 5000) : ∀ (d k i : Nat), i + d = bl.length → sobriquetref05_Unpack.l0 (k + d + 1) (i : Int) ix bl = if (bl.drop i).any wrongB = true then some ([], false) else sobriquetref05_Unpack.l1 k [] 0 ix bl := by
  intro d
  induction d with
  | zero =>
    intro k i hi
    rw [sobriquetref05_Unpack.l0, if_neg (by omega), List.drop_eq_nil_of_le (by omega), List.any_nil, if_neg (by decide)]
  | succ d ih =>
    intro k i hi
    have hil : i < bl.length := by omega
    rw [show k + (d + 1) + 1 = (k + d + 1) + 1 by omega, sobriquetref05_Unpack.l0, if_pos (by omega), if_pos (by omega), rd_nat bl i hil, in_f, Option.bind_some, List.drop_eq_getElem_cons hil, List.any_cons]
    by_cases q : 0 ≤ bl[i] ∧ bl[i] ≤ 65535
    · have e : wrongB bl[i] = false := by unfold wrongB; rw [dec_f _ (by omega), dec_f _ (by omega)]; rfl
      rw [dec_t _ q, if_pos rfl, w64_nat hil (by omega), e, Bool.false_or]
      exact ih k (i + 1) (by omega)
    · have e : wrongB bl[i] = true := by
        unfold wrongB
        by_cases q2 : bl[i] < 0
        · rw [dec_t _ q2]; rfl
        · rw [dec_t (bl[i] > 65535) (by omega), Bool.or_true]
      rw [dec_f _ q, if_neg (by decide), e, Bool.true_or, if_pos rfl]
def cvb (x : Go.Proofs.Ytaniolefeieliaa.Base.S44) : S44 := ⟨x.f0, x.f1, x.f2⟩
theorem cv_inj {a b : List S44} (h : a.map ranges_Pack.cv = b.map ranges_Pack.cv) : a = b := by
  have e : ∀ l : List S44, (l.map ranges_Pack.cv).map cvb = l := fun l => by
    rw [List.map_map]
    exact List.map_id'' (fun x => rfl) l
  rw [← e a, ← e b, h]
theorem Unpack_both (ix bl : List Int) (h1 : ix.length ≤ 5000) (h2 : bl.length ≤ 5000) (K : Nat) (hK : 10000000 < K) : ∃ u e x ok, ranges_Unpack.f K ix bl = some (u, e) ∧ sobriquetref05_Unpack.f K ix bl = some (x, ok) ∧ ((ok = true ∧ e = 0 ∧ u = x ∧ u.length ≤ 2000) ∨ (ok = false ∧ e = 1 ∧ u = [])) := by
  unfold ranges_Unpack.f sobriquetref05_Unpack.f
  have hpk : ranges_packed.f ix bl = some (packedB ix bl) := rfl
  rw [hpk, Option.bind_some]
  by_cases g1 : ix.length = 4352
  rotate_left
  · have e : packedB ix bl = false := by unfold packedB; rw [dec_f _ g1]; rfl
    rw [e, if_neg (by decide), if_neg (by omega)]
    exact ⟨_, _, _, _, rfl, rfl, .inr ⟨rfl, rfl, rfl⟩⟩
  rw [if_pos (show (ix.length : Int) = 4352 by omega)]
  by_cases g2 : bl.length % 256 = 0
  rotate_left
  · have e : packedB ix bl = false := by unfold packedB; rw [dec_t _ g1, dec_f _ g2]; rfl
    rw [e, if_neg (by decide), if_neg (by omega)]
    exact ⟨_, _, _, _, rfl, rfl, .inr ⟨rfl, rfl, rfl⟩⟩
  rw [if_pos (show (bl.length : Int) % 256 = 0 by omega)]
  obtain ⟨k, rfl⟩ : ∃ k, K = k + bl.length + 1 := ⟨K - bl.length - 1, by omega⟩
  have hl0 := RU_l0 ix bl h2 bl.length k 0 (by omega)
  rw [List.drop_zero] at hl0
  have e0 : ((0 : Nat) : Int) = 0 := rfl
  rw [e0] at hl0
  by_cases g3 : bl.any wrongB = true
  · have e : packedB ix bl = false := by unfold packedB; rw [g3]; simp
    rw [e, if_neg (by decide), hl0, if_pos g3]
    exact ⟨_, _, _, _, rfl, rfl, .inr ⟨rfl, rfl, rfl⟩⟩
  rw [if_neg g3] at hl0
  obtain ⟨M, hM⟩ : ∃ M : Nat, M = 10000000 := ⟨_, rfl⟩
  obtain ⟨B, hB⟩ : ∃ B : Nat, B = 256 := ⟨_, rfl⟩
  by_cases g4 : ix.any (badB ((bl.length / 256 : Nat) : Int)) = true
  · have e : packedB ix bl = false := by unfold packedB; rw [g4]; simp
    rw [e, if_neg (by decide)]
    have hq : ∃ q, 0 ≤ q ∧ q < 4352 ∧ ¬ okI ix bl q := by
      obtain ⟨x, hx, hb⟩ := List.any_eq_true.1 g4
      obtain ⟨i, hi, rfl⟩ := List.getElem_of_mem hx
      refine ⟨i, Nat.zero_le _, by omega, fun ho => ?_⟩
      unfold okI at ho
      rw [rd_nat ix i hi] at ho
      unfold badB at hb
      rw [dec_f _ (by omega), dec_f _ (by omega)] at hb
      cases hb
    have := RU_no M B hM hB ix bl g1 h2 4352 k 0 [] (by omega) (by omega) (by show 0 + 256 * 4352 ≤ M; omega) (.inr hq)
    rw [e0] at this
    rw [hl0, this]
    exact ⟨_, _, _, _, rfl, rfl, .inr ⟨rfl, rfl, rfl⟩⟩
  · have e : packedB ix bl = true := by
      unfold packedB
      rw [dec_t _ g1, dec_t _ g2, (Bool.not_eq_true _).mp g3, (Bool.not_eq_true _).mp g4]
      rfl
    have hok : ∀ q, q < 4352 → okI ix bl q := by
      intro q hq
      have hb : ¬ badB ((bl.length / 256 : Nat) : Int) (ix[q]'(by omega)) = true := fun hb => g4 (List.any_eq_true.2 ⟨_, List.getElem_mem _, hb⟩)
      unfold okI
      rw [rd_nat ix q (by omega)]
      unfold badB at hb
      by_cases a : ix[q]'(by omega) < 0
      · rw [dec_t _ a] at hb; exact absurd rfl hb
      · by_cases b : ix[q]'(by omega) ≥ ((bl.length / 256 : Nat) : Int)
        · rw [dec_t _ b, Bool.or_true] at hb; exact absurd rfl hb
        · omega
    rw [e, if_pos rfl]
    obtain ⟨D, hD⟩ : ∃ D : Nat, D = 1114112 := ⟨_, rfl⟩
    obtain ⟨r, r1, r2, r3⟩ := Prg_loop ix bl _ (fun c => Get_V ix bl h1 h2 c) D hD D (k + bl.length + 1) 0 [] (by omega) (by omega) (by simp)
    obtain ⟨s, s1, s2, s3⟩ := RU_yes M B hM hB ix bl g1 h2 hok 4352 k 0 [] (by omega) (by omega) (by show 0 + 256 * 4352 ≤ M; omega)
    rw [show 256 * 4352 = D by omega] at s2 s3
    rw [e0] at r1 s1
    rw [show ((256 * 0 : Nat) : Int) = ((0 : Nat) : Int) from rfl] at s2 s3
    rw [r1, hl0, s1]
    refine ⟨r.1, r.2, s.1, s.2, rfl, rfl, ?_⟩
    by_cases q : (unpA (getV ix bl) D ((0 : Nat) : Int) (([] : List S44).map ranges_Pack.cv)).length ≤ 2000
    · obtain ⟨a1, a2⟩ := r2 q
      obtain ⟨b1, b2⟩ := s2 q
      refine .inl ⟨b2, a2, cv_inj (a1.trans b1.symm), ?_⟩
      rw [← a1, List.length_map] at q
      exact q
    · rw [r3 (by omega), s3 (by omega)]
      exact .inr ⟨rfl, rfl, rfl⟩

/-! ### The page's Pack -/
open Go.Proofs.Ytaniolefeieliaa.Pk (put1 block_len flat_cut val_take val_rest block_is put_flat pack_step idx_first put_mem valF_none flat_len)
theorem bo_lo (kk : Nat) (hk : kk ≤ 4353) : wrap64 (256 * (kk : Int)) = 256 * (kk : Int) := w64 (by omega) (by omega)
theorem bo_hi (kk : Nat) (hk : kk < 4352) : wrap64 (256 * wrap64 ((kk : Int) + 1)) = 256 * (kk : Int) + 256 := by
  rw [w64_nat (i := kk) (n := 4352) hk (by omega), bo_lo (kk + 1) (by omega)]; omega
theorem bo_top (kk : Nat) (hk : kk < 4352) : wrap64 (wrap64 (256 * (kk : Int)) + 255) = 256 * (kk : Int) + 255 := by
  rw [bo_lo kk (by omega), w64 (by omega) (by omega)]
/-- Ranges that end ahead of the block are passed. -/
theorem PL1 (l : List S44) (hm : l.length ≤ 60) (kk : Nat) (hkk : kk < 4352) (b ix bl : List Int) : ∀ (d k a : Nat), a + d = l.length → 2 * d + 4 < k → (∀ x ∈ l.take a, x.f1 < 256 * (kk : Int)) → ∃ k' a' : Nat, k ≤ k' + 2 * d + 4 ∧ a' ≤ l.length ∧ (∀ x ∈ l.take a', x.f1 < 256 * (kk : Int)) ∧ sobriquetref05_Pack.l1 k l (a : Int) (kk : Int) b ix bl = sobriquetref05_Pack.l2 k' l (a' : Int) (kk : Int) b (a' : Int) ix bl := by
  intro d
  induction d with
  | zero =>
    intro k a ha hk hp
    obtain ⟨k, rfl⟩ : ∃ m, k = m + 2 := ⟨k - 2, by omega⟩
    refine ⟨k, a, by omega, by omega, hp, ?_⟩
    rw [sobriquetref05_Pack.l1, if_neg (by omega), sobriquetref05_Pack.j2, if_neg (by decide)]
  | succ d ih =>
    intro k a ha hk hp
    obtain ⟨k, rfl⟩ : ∃ m, k = m + 2 := ⟨k - 2, by omega⟩
    have hal : a < l.length := by omega
    rw [sobriquetref05_Pack.l1, if_pos (by omega), if_pos (by omega), rdT l a hal, bo_lo kk (by omega), sobriquetref05_Pack.j2]
    by_cases q : (l[a]).f1 < 256 * (kk : Int)
    · rw [dec_t _ q, if_pos rfl, w64_nat hal (by omega)]
      obtain ⟨k', a', h1, h2, h3, h4⟩ := ih k (a + 1) (by omega) (by omega) (fun x hx => by
        rw [← List.take_append_getElem hal, List.mem_append, List.mem_singleton] at hx
        rcases hx with hx | rfl
        · exact hp x hx
        · exact q)
      exact ⟨k', a', by omega, h2, h3, h4⟩
    · rw [dec_f _ q, if_neg (by decide)]
      exact ⟨k, a, by omega, by omega, hp, rfl⟩
/-- One range is filled in. -/
theorem PL3 (l : List S44) (hm : l.length ≤ 60) (kk : Nat) (hkk : kk < 4352) (a i : Nat) (hi : i < l.length) (ix bl : List Int) (hi0 : (l[i]).f0 ≤ (l[i]).f1) (h0 : 0 ≤ (l[i]).f0) (h1 : (l[i]).f1 ≤ 1114111) (h2 : (l[i]).f0 < 256 * (kk : Int) + 256) : ∀ (d k : Nat) (c : Int) (b : List Int), 256 * (kk : Int) ≤ c → (l[i]).f0 ≤ c → c + (d : Int) = 256 * (kk : Int) + 256 → d + 4 < k → b.length = 256 → ∃ (k' : Nat) (b' : List Int), k ≤ k' + d + 4 ∧ b'.length = 256 ∧ (∀ r : Nat, r < 256 → b'[r]? = if c ≤ 256 * (kk : Int) + (r : Int) ∧ 256 * (kk : Int) + (r : Int) ≤ (l[i]).f1 then some (l[i]).f2 else b[r]?) ∧ sobriquetref05_Pack.l3 k l (a : Int) (kk : Int) b (i : Int) c ix bl = sobriquetref05_Pack.l2 k' l (a : Int) (kk : Int) b' ((i + 1 : Nat) : Int) ix bl := by
  intro d
  induction d with
  | zero =>
    intro k c b c0 c1 hd hk hb
    obtain ⟨k, rfl⟩ : ∃ m, k = m + 1 := ⟨k - 1, by omega⟩
    refine ⟨k, b, by omega, hb, fun r hr => ?_, ?_⟩
    · rw [if_neg (by omega)]
    · rw [sobriquetref05_Pack.l3, if_pos (by omega), if_pos (by omega), rdT l i hi, bo_top kk hkk, if_neg (by unfold mn; split <;> omega), w64_nat hi (by omega)]
  | succ d ih =>
    intro k c b c0 c1 hd hk hb
    obtain ⟨k, rfl⟩ : ∃ m, k = m + 1 := ⟨k - 1, by omega⟩
    rw [sobriquetref05_Pack.l3, if_pos (by omega), if_pos (by omega), rdT l i hi, bo_top kk hkk, bo_lo kk (by omega)]
    by_cases q : c ≤ (l[i]).f1
    · obtain ⟨r0, hr0⟩ : ∃ r0 : Nat, wrap64 (c - 256 * (kk : Int)) = (r0 : Int) := ⟨(c - 256 * (kk : Int)).toNat, by rw [w64 (by omega) (by omega)]; omega⟩
      have hr1 : c = 256 * (kk : Int) + (r0 : Int) := by rw [← hr0, w64 (by omega) (by omega)]; omega
      rw [if_pos (by unfold mn; split <;> omega), hr0, if_pos (by omega), if_pos (by rw [hb]; omega), Int.toNat_natCast, w64 (x := c + 1) (by omega) (by omega)]
      obtain ⟨k', b', g1, g2, g3, g4⟩ := ih k (c + 1) (b.set r0 (l[i]).f2) (by omega) (by omega) (by omega) (by omega) (by rw [List.length_set]; exact hb)
      refine ⟨k', b', by omega, g2, fun r hr => ?_, g4⟩
      rw [g3 r hr, List.getElem?_set]
      by_cases e : r0 = r
      · subst e
        rw [if_neg (by omega), if_pos rfl, if_pos (by rw [hb]; omega), if_pos (by omega)]
      · rw [if_neg e]
        by_cases e2 : c + 1 ≤ 256 * (kk : Int) + (r : Int) ∧ 256 * (kk : Int) + (r : Int) ≤ (l[i]).f1
        · rw [if_pos e2, if_pos (by omega)]
        · rw [if_neg e2, if_neg (by omega)]
    · rw [if_neg (by unfold mn; split <;> omega), w64_nat hi (by omega)]
      exact ⟨k, b, by omega, hb, fun r hr => by rw [if_neg (by omega)], rfl⟩
theorem PL2 (l : List S44) (hm : l.length ≤ 60) (hR : Right (l.map ranges_Pack.cv)) (kk : Nat) (hkk : kk < 4352) (a : Nat) (ix bl : List Int) : ∀ (d k i : Nat) (b : List Int), i + d = l.length → 400 * d + 10 < k → b.length = 256 → (∀ r : Nat, r < 256 → b[r]? = some (valF ((l.map ranges_Pack.cv).take i) (256 * (kk : Int) + (r : Int)))) → ∃ k' : Nat, k ≤ k' + 400 * d + 10 ∧ sobriquetref05_Pack.l2 k l (a : Int) (kk : Int) b (i : Int) ix bl = sobriquetref05_Pack.l4 k' l (a : Int) (kk : Int) (blockF (l.map ranges_Pack.cv) (256 * (kk : Int))) (-1) 0 ix bl := by
  intro d
  induction d with
  | zero =>
    intro k i b hd hk hb hv
    obtain ⟨k, rfl⟩ : ∃ m, k = m + 2 := ⟨k - 2, by omega⟩
    have e : b = blockF (l.map ranges_Pack.cv) (256 * (kk : Int)) := block_is _ _ b hb (fun r hr => by rw [hv r hr, List.take_of_length_le (by rw [List.length_map]; omega)])
    rw [sobriquetref05_Pack.l2, if_neg (by omega), sobriquetref05_Pack.j4, if_neg (by decide), e]
    exact ⟨k, by omega, rfl⟩
  | succ d ih =>
    intro k i b hd hk hb hv
    obtain ⟨k, rfl⟩ : ∃ m, k = m + 2 := ⟨k - 2, by omega⟩
    have hil : i < l.length := by omega
    have hilm : i < (l.map ranges_Pack.cv).length := by rw [List.length_map]; exact hil
    have hok := hR.1 _ (List.getElem_mem hilm)
    have hge : (l.map ranges_Pack.cv)[i] = ranges_Pack.cv l[i] := List.getElem_map ..
    rw [hge] at hok
    unfold Go.Proofs.Ytaniolefeieliaa.Pk.okS at hok
    have e0 : (ranges_Pack.cv l[i]).f0 = (l[i]).f0 := rfl
    have e1 : (ranges_Pack.cv l[i]).f1 = (l[i]).f1 := rfl
    have e2 : (ranges_Pack.cv l[i]).f2 = (l[i]).f2 := rfl
    rw [e0, e1, e2] at hok
    rw [sobriquetref05_Pack.l2, if_pos (by omega), if_pos (by omega), rdT l i hil, bo_hi kk hkk, sobriquetref05_Pack.j4]
    by_cases q : (l[i]).f0 < 256 * (kk : Int) + 256
    · rw [dec_t _ q, if_pos rfl, if_pos (by omega), if_pos (by omega), rdT l i hil, bo_lo kk (by omega)]
      obtain ⟨c, hc⟩ : ∃ c, c = mx (l[i]).f0 (256 * (kk : Int)) := ⟨_, rfl⟩
      have hc2 : 256 * (kk : Int) ≤ c ∧ (l[i]).f0 ≤ c ∧ c ≤ 256 * (kk : Int) + 255 ∧ (c = (l[i]).f0 ∨ c = 256 * (kk : Int)) := by
        rw [hc]; unfold mx; split <;> omega
      rw [← hc]
      obtain ⟨k', b', g1, g2, g3, g4⟩ := PL3 l hm kk hkk a i hil ix bl (by omega) (by omega) (by omega) q (256 * (kk : Int) + 256 - c).toNat k c b (by omega) (by omega) (by omega) (by omega) hb
      rw [g4]
      obtain ⟨k'', f1, f2⟩ := ih k' (i + 1) b' (by omega) (by omega) g2 (fun r hr => by
        rw [g3 r hr, val_take _ i hilm, hge, e0, e1, e2]
        by_cases e : c ≤ 256 * (kk : Int) + (r : Int) ∧ 256 * (kk : Int) + (r : Int) ≤ (l[i]).f1
        · rw [if_pos e, if_pos (by omega)]
        · rw [if_neg e, if_neg (by omega), hv r hr])
      exact ⟨k'', by omega, f2⟩
    · have e : b = blockF (l.map ranges_Pack.cv) (256 * (kk : Int)) := block_is _ _ b hb (fun r hr => by
        rw [hv r hr, val_rest hR i hilm _ (by rw [hge, e0]; omega)])
      rw [dec_f _ q, if_neg (by decide), e]
      exact ⟨k, by omega, rfl⟩
/-- Which block it is. -/
theorem PL4 (l : List S44) (a kk : Nat) (hkk : kk < 4352) (b ix : List Int) (hb : b.length = 256) (hix : ix.length = kk) (bs : List (List Int)) (hl : ∀ b ∈ bs, b.length = 256) (hn : bs.length ≤ kk) : ∀ (d k q : Nat), q + d = bs.length → 2 * d + 300 < k → b ∉ bs.take q → ∃ k' : Nat, k ≤ k' + 2 * d + 10 ∧ sobriquetref05_Pack.l4 k l (a : Int) (kk : Int) b (-1) (q : Int) ix bs.flatten = sobriquetref05_Pack.l0 k' l (a : Int) ((kk + 1 : Nat) : Int) (ix ++ [((bs.idxOf b : Nat) : Int)]) (put1 bs b).flatten := by
  have hfl := flat_len hl
  intro d
  induction d with
  | zero =>
    intro k q hd hk hno
    obtain ⟨k, rfl⟩ : ∃ m, k = m + 2 := ⟨k - 2, by omega⟩
    have hnb : b ∉ bs := by
      rw [List.take_of_length_le (by omega)] at hno
      exact hno
    rw [sobriquetref05_Pack.l4, if_pos (by decide), bo_lo q (by omega), dec_f _ (by rw [hfl]; omega), sobriquetref05_Pack.j7, if_neg (by decide), if_pos (by decide), if_pos (by rw [hfl]; omega), if_pos (by omega), put_flat bs b hnb, w64_nat hkk (by omega), List.idxOf_eq_length hnb]
    refine ⟨k, by omega, ?_⟩
    have e : wrap64 ((bs.flatten.length : Int) / 256) = ((bs.length : Nat) : Int) := by
      rw [hfl, w64 (by omega) (by omega)]; omega
    rw [e]
  | succ d ih =>
    intro k q hd hk hno
    obtain ⟨k, rfl⟩ : ∃ m, k = m + 2 := ⟨k - 2, by omega⟩
    have hq : q < bs.length := by omega
    have e3 : wrap64 (256 * (q : Int) + 256) = 256 * (q : Int) + 256 := w64 (by omega) (by omega)
    have e4 : (256 * (q : Int)).toNat = 256 * q := by omega
    have e5 : (256 * (q : Int) + 256).toNat = 256 * q + 256 := by omega
    have hqg : bs[q]? = some bs[q] := List.getElem?_eq_getElem hq
    have hbq := hl _ (List.getElem_mem hq)
    rw [sobriquetref05_Pack.l4, if_pos (by decide), bo_lo q (by omega), dec_t _ (by rw [hfl]; omega), sobriquetref05_Pack.j7, if_pos rfl, bo_lo q (by omega), e3, if_pos (by omega), if_pos (by omega), if_pos (by rw [hfl]; omega), e4, e5, flat_cut bs q bs[q] hl hqg, Ints_f _ _ k (by omega) (by omega), Option.bind_some, w64_nat hq (by omega)]
    by_cases e : bs[q] = b
    · rw [dec_t _ e, if_pos rfl]
      obtain ⟨k, rfl⟩ : ∃ m, k = m + 2 := ⟨k - 2, by omega⟩
      have hin : b ∈ bs := e ▸ List.getElem_mem hq
      rw [sobriquetref05_Pack.l4, if_neg (by omega), sobriquetref05_Pack.j7, if_neg (by decide), if_neg (by omega), if_pos (by omega), w64_nat hkk (by omega), put_mem hin, idx_first b bs q hq e hno]
      exact ⟨k, by omega, rfl⟩
    · rw [dec_f _ e, if_neg (by decide)]
      obtain ⟨k', h1, h2⟩ := ih k (q + 1) (by omega) (by omega) (fun hx => by
        rw [← List.take_append_getElem hq, List.mem_append, List.mem_singleton] at hx
        rcases hx with hx | hx
        · exact hno hx
        · exact e hx.symm)
      exact ⟨k', by omega, h2⟩
theorem put_all {bs : List (List Int)} (hl : ∀ b ∈ bs, b.length = 256) {b : List Int} (hb : b.length = 256) : (∀ x ∈ put1 bs b, x.length = 256) ∧ (put1 bs b).length ≤ bs.length + 1 := by
  refine ⟨fun x hx => ?_, Go.Proofs.Ytaniolefeieliaa.Pk.put_len bs b⟩
  unfold put1 at hx
  split at hx
  · exact hl x hx
  · rcases List.mem_append.1 hx with hx | hx
    · exact hl x hx
    · rw [List.mem_singleton.1 hx]; exact hb
theorem PL0 (C : Nat) (hC : C = 60000) (l : List S44) (hm : l.length ≤ 60) (hR : Right (l.map ranges_Pack.cv)) : ∀ (d k kk a : Nat) (ix : List Int) (bs : List (List Int)), kk + d = 4352 → C * d + C < k → a ≤ l.length → (∀ x ∈ l.take a, x.f1 < 256 * (kk : Int)) → ix.length = kk → (∀ b ∈ bs, b.length = 256) → bs.length ≤ kk → sobriquetref05_Pack.l0 k l (a : Int) (kk : Int) ix bs.flatten = some ((packGo d (l.map ranges_Pack.cv) kk ix bs).1, (packGo d (l.map ranges_Pack.cv) kk ix bs).2.flatten) := by
  intro d
  induction d with
  | zero =>
    intro k kk a ix bs hd hk ha hp hix hl hn
    obtain ⟨k, rfl⟩ : ∃ m, k = m + 1 := ⟨k - 1, by omega⟩
    rw [sobriquetref05_Pack.l0, if_neg (by omega)]
    rfl
  | succ d ih =>
    intro k kk a ix bs hd hk ha hp hix hl hn
    obtain ⟨k, rfl⟩ : ∃ m, k = m + 1 := ⟨k - 1, by omega⟩
    have hkk : kk < 4352 := by omega
    have hCd : C * (d + 1) = C * d + C := Nat.mul_succ C d
    rw [hCd] at hk
    rw [sobriquetref05_Pack.l0, if_pos (by omega), if_pos (by omega)]
    obtain ⟨k1, a1, p1, p2, p3, p4⟩ := PL1 l hm kk hkk (List.replicate 256 0) ix bs.flatten (l.length - a) k a (by omega) (by omega) hp
    rw [p4]
    obtain ⟨k2, q1, q2⟩ := PL2 l hm hR kk hkk a1 ix bs.flatten (l.length - a1) k1 a1 (List.replicate 256 0) (by omega) (by omega) List.length_replicate (fun r hr => by
      rw [List.getElem?_replicate, if_pos hr, valF_none]
      intro x hx
      rw [← List.map_take] at hx
      obtain ⟨y, hy, rfl⟩ := List.mem_map.1 hx
      have := p3 y hy
      have e1 : (ranges_Pack.cv y).f1 = y.f1 := rfl
      rw [e1]
      omega)
    rw [q2]
    have hbl : (blockF (l.map ranges_Pack.cv) (256 * (kk : Int))).length = 256 := block_len _ _
    obtain ⟨k3, r1, r2⟩ := PL4 l a1 kk hkk _ ix hbl hix bs hl hn bs.length k2 0 (by omega) (by omega) (by rw [List.take_zero]; exact List.not_mem_nil)
    have e0 : ((0 : Nat) : Int) = 0 := rfl
    rw [e0] at r2
    rw [r2, pack_step]
    obtain ⟨s1, s2⟩ := put_all hl hbl
    exact ih k3 (kk + 1) a1 _ _ (by omega) (by omega) p2 (fun x hx => by have := p3 x hx; omega) (by rw [List.length_append, List.length_singleton]; omega) s1 (by omega)
theorem RPack_f (l : List S44) (hm : l.length ≤ 60) (hR : Right (l.map ranges_Pack.cv)) (k C : Nat) (hC : C = 60000) (hk : C * 4352 + C < k) : sobriquetref05_Pack.f k l = some ((packGo 4352 (l.map ranges_Pack.cv) 0 [] []).1, (packGo 4352 (l.map ranges_Pack.cv) 0 [] []).2.flatten) := by
  unfold sobriquetref05_Pack.f
  exact PL0 C hC l hm hR 4352 k 0 0 [] [] (by omega) hk (Nat.zero_le _) (fun x hx => by rw [List.take_zero] at hx; cases hx) rfl (fun b hb => by cases hb) (Nat.le_refl _)

theorem Stage_same (a b : List Int) (k : Nat) (ha : a.length ≤ 1200000) (hb : b.length ≤ 1200000) (hk : 1200000 < k) : sobriquetkeep_Stage.f k a b a b = some true := by
  unfold sobriquetkeep_Stage.f
  rw [Ints_f a a k (by omega) (by omega), Option.bind_some, decide_eq_true rfl, if_pos rfl, Ints_f b b k (by omega) (by omega), Option.bind_some, decide_eq_true rfl]
theorem J2 (l : List S44) (hm : l.length ≤ 60) (C : Nat) (hC : C = 300000000) (k : Nat) (hk : C < k) (p : List Int × List Int × Int) (hp : ranges_Pack.f k l = some p) : sobriquetlaw05_RangesExact.j2 (k + 1) l p.2.2 false p.1 p.2.1 = some true := by
  obtain ⟨b, hb1, hb2⟩ := RFlat_f l (by omega) k (by omega)
  have hml : (l.map ranges_Pack.cv).length = l.length := List.length_map ..
  rw [sobriquetlaw05_RangesExact.j2, if_neg (by decide), hb1, Option.bind_some]
  by_cases hR : Right (l.map ranges_Pack.cv)
  · have e := Pack_yes l (by omega) hR k (by omega)
    have h1 : (packGo 4352 (l.map ranges_Pack.cv) 0 [] []).1.length ≤ 1200000 := by rw [(pack_said _).1]; omega
    have h2 : (packGo 4352 (l.map ranges_Pack.cv) 0 [] []).2.flatten.length ≤ 1200000 := by
      have := go_len 4352 0 (l.map ranges_Pack.cv) [] []
      rw [Go.Proofs.Ytaniolefeieliaa.Pk.flat_len (pack_said _).2.1]
      have e0 : ([] : List (List Int)).length = 0 := rfl
      rw [e0] at this
      omega
    have hq := RPack_f l hm hR k 60000 rfl (Nat.lt_of_le_of_lt (by rw [hC]; decide) hk)
    rw [hp] at e
    obtain rfl := Option.some.inj e
    have hck : ranges_Check.f k l = some 0 := by rw [check_same]; exact check_ok _ (by omega) hR k (by omega)
    rw [hb2.2 hR, if_pos rfl, hck, Option.bind_some, if_pos rfl]
    dsimp only
    rw [if_pos rfl, hq, Option.bind_some]
    dsimp only
    rw [Stage_same _ _ k h1 h2 (by omega), Option.bind_some, if_pos rfl, wakes_true k (by omega), Option.bind_some]
  · have e := Pack_no l hR k (by omega)
    rw [hp] at e
    obtain rfl := Option.some.inj e
    have hb : b = false := by
      cases b with
      | false => rfl
      | true => exact absurd (hb2.1 rfl) hR
    have hck : ranges_Check.f k l = some 1 := by rw [check_same]; exact check_no _ hR k (by omega)
    rw [hb, if_neg (by decide), hck, Option.bind_some, if_pos rfl]
    dsimp only
    rw [if_pos rfl, Stage_same [] [] k (by decide) (by decide) (by omega), Option.bind_some, if_pos rfl, wakes_true k (by omega), Option.bind_some]
theorem J1 (l : List S44) (hm : l.length ≤ 60) (ix bl : List Int) (h1 : ix.length ≤ 5000) (h2 : bl.length ≤ 5000) (C : Nat) (hC : C = 300000000) (k : Nat) (hk : C < k) (p : List Int × List Int × Int) (hp : ranges_Pack.f k l = some p) (u : List S44) (e : Int) (hu : ranges_Unpack.f (k + 1) ix bl = some (u, e)) : sobriquetlaw05_RangesExact.j1 (k + 2) l p.2.2 u e false ix bl p.1 p.2.1 = some true := by
  obtain ⟨u', e', x, ok, g1, g2, g3⟩ := Unpack_both ix bl h1 h2 (k + 1) (by omega)
  rw [hu] at g1
  obtain ⟨rfl, rfl⟩ := Prod.mk.inj (Option.some.inj g1)
  rw [sobriquetlaw05_RangesExact.j1, if_neg (by decide), g2, Option.bind_some]
  dsimp only
  rcases g3 with ⟨rfl, rfl, rfl, g4⟩ | ⟨rfl, rfl, rfl⟩
  · rw [if_neg (by decide), if_pos rfl, Ranges_f _ (by omega) _ (by omega), Option.bind_some]
    exact J2 l hm C hC k (by omega) p hp
  · rw [if_neg (by decide), if_neg (by decide), if_pos rfl, if_neg (by decide)]
    exact J2 l hm C hC k (by omega) p hp
theorem J0t (k : Nat) (l : List S44) (a : Int) (ix bl : List Int) : sobriquetlaw05_RangesExact.j0 (k + 1) l a true ix bl = some true := by
  rw [sobriquetlaw05_RangesExact.j0, if_pos rfl]
theorem RangesExact : sobriquetlaw05_RangesExact.Pure := by
  intro l a ix bl _ _ _
  obtain ⟨C, hC⟩ : ∃ C : Nat, C = 300000000 := ⟨_, rfl⟩
  obtain ⟨k, hk⟩ : ∃ k : Nat, k = C + 30000000 := ⟨_, rfl⟩
  refine ⟨k + 3, ?_⟩
  unfold sobriquetlaw05_RangesExact.f
  by_cases g1 : (l.length : Int) > 60
  · rw [if_pos g1, J0t]
  rw [if_neg g1]
  by_cases g2 : (ix.length : Int) > 5000
  · rw [if_pos g2, J0t]
  rw [if_neg g2]
  by_cases g3 : (bl.length : Int) > 5000
  · rw [dec_t _ g3, J0t]
  have hm : l.length ≤ 60 := by omega
  obtain ⟨p, hp, hp2⟩ : ∃ p, ranges_Pack.f k l = some p ∧ ranges_Pack.f (k + 2) l = some p := by
    by_cases hR : Right (l.map ranges_Pack.cv)
    · have q1 := Pack_yes l (by omega) hR k (by omega)
      exact ⟨_, q1, ranges_Pack.mono l (k + 1) _ (ranges_Pack.mono l k _ q1)⟩
    · have q1 := Pack_no l hR k (by omega)
      exact ⟨_, q1, ranges_Pack.mono l (k + 1) _ (ranges_Pack.mono l k _ q1)⟩
  obtain ⟨u, e, x, ok, u1, _, _⟩ := Unpack_both ix bl (by omega) (by omega) (k + 2) (by omega)
  obtain ⟨u', e', x', ok', u1', _, _⟩ := Unpack_both ix bl (by omega) (by omega) (k + 1) (by omega)
  have hmo := ranges_Unpack.mono ix bl (k + 1) _ u1'
  rw [u1] at hmo
  obtain ⟨rfl, rfl⟩ := Prod.mk.inj (Option.some.inj hmo)
  obtain ⟨v, v1, v2⟩ := Get_both ix bl (by omega) (by omega) a
  rw [dec_f _ g3, sobriquetlaw05_RangesExact.j0, if_neg (by decide), hp2, Option.bind_some, u1, Option.bind_some, Flat_f l (by omega) a (k + 2) (by omega), Option.bind_some, Look_f l (by omega) a (k + 2) (by omega), Option.bind_some, if_pos rfl, v1, Option.bind_some, v2, Option.bind_some, bne_self_eq_false]
  exact J1 l hm ix bl (by omega) (by omega) C hC k (by omega) p hp u e u1'

end Go.Proofs.Ytaniolefeieliaa.Pure
