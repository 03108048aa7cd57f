/- The statement RangesBack: what is packed is unpacked to a table that says the same, with no more ranges; packed again it is the same. No conditions. -/
import Derived.Test.YtaniolefeieliaaMRangesBackx3
import Derived.Test.YtaniolefeieliaaPr
namespace Go.Proofs.Ytaniolefeieliaa.Pure
open Go.RowKit Go.Proofs.Ytaniolefeieliaa.MRangesBack Go.Proofs.YtaniolefeieliaaW.PrintWords Go.Proofs.YtaniolefeieliaaW.PrintLast
set_option linter.unusedVariables false
set_option linter.unusedSimpArgs false
set_option maxHeartbeats 1000000

theorem w64 {x : Int} (h0 : -9223372036854775808 ≤ x) (h1 : x ≤ 9223372036854775807) : wrap64 x = x := by unfold wrap64; omega
theorem w64_nat {i n : Nat} (h : i < n) (hn : n ≤ 4611686018427387904) : wrap64 ((i : Int) + 1) = ((i + 1 : Nat) : Int) := by unfold wrap64; omega
theorem rd_nat (xs : List Int) (i : Nat) (h : i < xs.length) : rd xs (i : Int) = xs[i] := by simp [rd, List.getD_eq_getElem?_getD, List.getElem?_eq_getElem h]
theorem wf64 {a : Int} (h : (Lit.int .i64 a).wf = true) : -9223372036854775808 ≤ a ∧ a ≤ 9223372036854775807 := by
  simpa [Lit.wf, show IntKind.i64.min = -9223372036854775808 from rfl] using h
theorem tdiv_nn {a : Int} (h : 0 ≤ a) (b : Int) : Int.tdiv a b = a / b := Int.tdiv_eq_ediv_of_nonneg h
theorem tmod_nn {a : Int} (h : 0 ≤ a) (b : Int) : Int.tmod a b = a % b := Int.tmod_eq_emod_of_nonneg h
theorem dec_iff (p q : Prop) [Decidable p] [Decidable q] (h : p ↔ q) : decide p = decide q := by simp [h]
theorem dec_t (p : Prop) [Decidable p] (h : p) : decide p = true := by simp [h]
theorem dec_f (p : Prop) [Decidable p] (h : ¬ p) : decide p = false := by simp [h]
theorem tmod_bd (a c : Int) (hc : 0 < c) : -c < Int.tmod a c ∧ Int.tmod a c < c := by
  have h1 := Int.emod_nonneg a (b := c) (by omega)
  have h2 := Int.emod_lt_of_pos a hc
  have h3 : ((c.natAbs : Nat) : Int) = c := by omega
  have h4 := Int.tmod_lt_of_pos a hc
  refine ⟨?_, h4⟩
  rw [Int.tmod_eq_emod]
  split
  · omega
  · rename_i h
    have : a % c ≠ 0 := fun e => h (.inr (Int.dvd_of_emod_eq_zero e))
    omega
theorem w64l (x y : Int) (h : x = y ∧ -9223372036854775808 ≤ y ∧ y ≤ 9223372036854775807) : wrap64 x = y := by rw [h.1]; exact w64 h.2.1 h.2.2

theorem Ints_l0 (a b : List Int) (hl : a.length = b.length) (hm : a.length ≤ 4611686018427387904) : ∀ (d k i : Nat), i + d = a.length → d < k → sobriquetkeep_Ints.l0 k a b (i : Int) = some (decide (a.drop i = b.drop i)) := by
  intro d
  induction d with
  | zero =>
    intro k i hi hk
    obtain ⟨k, rfl⟩ : ∃ m, k = m + 1 := ⟨k - 1, by omega⟩
    simp only [sobriquetkeep_Ints.l0]
    rw [if_neg (by omega), List.drop_eq_nil_of_le (by omega), List.drop_eq_nil_of_le (by omega)]
    simp
  | succ d ih =>
    intro k i hi hk
    obtain ⟨k, rfl⟩ : ∃ m, k = m + 1 := ⟨k - 1, by omega⟩
    have ha : i < a.length := by omega
    have hb : i < b.length := by omega
    simp only [sobriquetkeep_Ints.l0]
    rw [if_pos (by omega), if_pos (by omega), if_pos (by omega), rd_nat a i ha, rd_nat b i hb, w64_nat ha hm, ih k (i + 1) (by omega) (by omega), List.drop_eq_getElem_cons ha, List.drop_eq_getElem_cons hb]
    by_cases h : a[i] = b[i]
    · simp only [h, if_true, List.cons.injEq, true_and]
    · simp only [h, if_false, List.cons.injEq, false_and, decide_false]
theorem Ints_f (a b : List Int) (k : Nat) (hm : a.length ≤ 4611686018427387904) (hk : a.length < k) : sobriquetkeep_Ints.f k a b = some (decide (a = b)) := by
  unfold sobriquetkeep_Ints.f
  by_cases hl : a.length = b.length
  · rw [if_pos (by omega)]
    have := Ints_l0 a b hl hm a.length k 0 (by omega) hk
    simpa using this
  · rw [if_neg (by omega)]
    have : a ≠ b := fun h => hl (by rw [h])
    simp [this]

open Go.Proofs.Ytaniolefeieliaa.Pk (valF flatV flat_val flat_at flat_out Right Said pack_said go_len block_at flat_get packGo blockF check_f pack_one one one_wrong packedB wrongB badB)
theorem rdn (xs : List Int) (i : Nat) (v : Int) (h : xs[i]? = some v) : rd xs (i : Int) = v := by simp [rd, List.getD_eq_getElem?_getD, h]
theorem rdT (l : List S44) (i : Nat) (h : i < l.length) : rd_T44 l (i : Int) = l[i] := by simp [rd_T44, List.getD_eq_getElem?_getD, List.getElem?_eq_getElem h]
theorem dm1 (c : Int) (h0 : 0 ≤ c) (h1 : c ≤ 1114111) : ∃ j r : Nat, wrap64 (Int.tdiv c 256) = (j : Int) ∧ Int.tmod c 256 = (r : Int) ∧ j < 4352 ∧ r < 256 ∧ 256 * (j : Int) + (r : Int) = c := by
  refine ⟨(c / 256).toNat, (c % 256).toNat, ?_, ?_, ?_, ?_, ?_⟩
  · rw [tdiv_nn h0, w64 (by omega) (by omega)]; omega
  · rw [tmod_nn h0]; omega
  · omega
  · omega
  · omega
theorem dm2 (m n r : Nat) (hm : m < n) (hn : n ≤ 4352) (hr : r < 256) : wrap64 (wrap64 ((m : Int) * 256) + (r : Int)) = ((256 * m + r : Nat) : Int) := by
  rw [w64 (x := (m : Int) * 256) (by omega) (by omega), w64 (by omega) (by omega)]
  omega
theorem dm3 (n : Nat) (hn : n ≤ 4352) : wrap64 (((n * 256 : Nat) : Int) / 256) = (n : Int) := by
  rw [w64 (by omega) (by omega)]
  omega
theorem dm4 (m n r : Nat) (hm : m < n) (hr : r < 256) : ((256 * m + r : Nat) : Int) < ((n * 256 : Nat) : Int) := by omega
/-- What a packed table tells. -/
theorem Get_said (L : List Go.Proofs.Ytaniolefeieliaa.Base.S44) (hR : Right L) (ix : List Int) (bs : List (List Int)) (hS : Said L ix bs 4352) (hb : bs.length ≤ 4352) (c : Int) : ranges_Get.f ix bs.flatten c = some (flatV L c) := by
  obtain ⟨h1, h2, h3⟩ := hS
  have hfl := Go.Proofs.Ytaniolefeieliaa.Pk.flat_len h2
  obtain ⟨bl, hbl⟩ : ∃ bl, bl = bs.flatten := ⟨_, rfl⟩
  rw [← hbl] at hfl ⊢
  unfold ranges_Get.f
  by_cases c0 : c < 0
  · rw [if_pos c0, flat_out hR c (.inl c0)]
  rw [if_neg c0]
  by_cases c1 : c > 1114111
  · rw [if_pos c1, flat_out hR c (.inr c1)]
  rw [if_neg c1]
  obtain ⟨j, r, e1, e2, hj, hr, hc⟩ := dm1 c (Int.not_lt.1 c0) (Int.not_lt.1 c1)
  have hjl : j < ix.length := by rw [h1]; exact hj
  obtain ⟨m, hm1, hm2⟩ := h3 j hjl
  have hmb : m < bs.length := (List.getElem?_eq_some_iff.1 hm2).1
  have e3 : rd ix (j : Int) = (m : Int) := by rw [rd_nat ix j hjl]; exact hm1
  have e4 : wrap64 ((bl.length : Int) / 256) = (bs.length : Int) := by rw [hfl]; exact dm3 _ hb
  have e5 := dm2 m bs.length r hmb hb hr
  have hv := (flat_get bs m r _ h2 hm2 hr).trans (block_at L (256 * (j : Int)) r hr)
  rw [hc, ← hbl] at hv
  have g1 : ¬ ((j : Int) ≥ (ix.length : Int)) := fun h => absurd (Int.ofNat_le.1 h) (Nat.not_le.2 hjl)
  have g2 : (j : Int) < (ix.length : Int) := Int.ofNat_lt.2 hjl
  have g3 : ¬ ((m : Int) < 0) := Int.not_lt.2 (Int.natCast_nonneg _)
  have g4 : ¬ ((m : Int) ≥ (bs.length : Int)) := fun h => absurd (Int.ofNat_le.1 h) (Nat.not_le.2 hmb)
  have g5 : (0 : Int) ≤ ((256 * m + r : Nat) : Int) := Int.natCast_nonneg _
  have g6 : ((256 * m + r : Nat) : Int) < (bl.length : Int) := by rw [hfl]; exact dm4 m bs.length r hmb hr
  rw [e1, if_neg g1, if_pos (Int.natCast_nonneg _), if_pos g2, e3, if_neg g3, e4, if_neg g4, e2, e5, if_pos g5, if_pos g6, rdn _ _ _ hv, flat_val hR]
theorem Flat_l0 (l : List S44) (hm : l.length ≤ 2000) (c : Int) : ∀ (d k i : Nat), i + d = l.length → d < k → ranges_Flat.l0 k c l (l.length : Int) (i : Int) = some (flatV ((l.drop i).map ranges_Pack.cv) c) := by
  intro d
  induction d with
  | zero =>
    intro k i hi hk
    obtain ⟨k, rfl⟩ : ∃ m, k = m + 1 := ⟨k - 1, by omega⟩
    simp only [ranges_Flat.l0]
    rw [if_neg (by omega), List.drop_eq_nil_of_le (by omega)]
    rfl
  | succ d ih =>
    intro k i hi hk
    obtain ⟨k, rfl⟩ : ∃ m, k = m + 1 := ⟨k - 1, by omega⟩
    have hil : i < l.length := by omega
    simp only [ranges_Flat.l0]
    rw [if_pos (by omega), if_pos (by omega), if_pos (by omega), rdT l i hil, w64_nat hil (by omega), ih k (i + 1) (by omega) (by omega), List.drop_eq_getElem_cons hil, List.map_cons]
    have e : flatV (ranges_Pack.cv l[i] :: (l.drop (i + 1)).map ranges_Pack.cv) c = if (l[i]).f0 ≤ c then (if c ≤ (l[i]).f1 then (l[i]).f2 else flatV ((l.drop (i + 1)).map ranges_Pack.cv) c) else flatV ((l.drop (i + 1)).map ranges_Pack.cv) c := by
      unfold flatV
      rw [List.find?_cons]
      by_cases q0 : (l[i]).f0 ≤ c
      · by_cases q1 : c ≤ (l[i]).f1
        · rw [if_pos q0, if_pos q1, (Go.Proofs.Ytaniolefeieliaa.Pk.has_iff c (ranges_Pack.cv l[i])).2 ⟨q0, q1⟩]
          rfl
        · rw [if_pos q0, if_neg q1, show Go.Proofs.Ytaniolefeieliaa.Pk.hasB c (ranges_Pack.cv l[i]) = false from by rw [← Bool.not_eq_true, Go.Proofs.Ytaniolefeieliaa.Pk.has_iff]; exact fun h => q1 h.2]
      · rw [if_neg q0, show Go.Proofs.Ytaniolefeieliaa.Pk.hasB c (ranges_Pack.cv l[i]) = false from by rw [← Bool.not_eq_true, Go.Proofs.Ytaniolefeieliaa.Pk.has_iff]; exact fun h => q0 h.1]
    rw [e]
    by_cases q0 : (l[i]).f0 ≤ c
    · rw [if_pos q0, if_pos q0]
      by_cases q1 : c ≤ (l[i]).f1
      · rw [if_pos q1, if_pos q1]
      · rw [if_neg q1, if_neg q1]
    · rw [if_neg q0, if_neg q0]
theorem Flat_f (l : List S44) (hm : l.length ≤ 2000) (c : Int) (k : Nat) (hk : l.length < k) : ranges_Flat.f k l c = some (flatV (l.map ranges_Pack.cv) c) := by
  unfold ranges_Flat.f
  have := Flat_l0 l hm c l.length k 0 (by omega) hk
  simpa using this
/-- Pack: not right, or what packGo says. -/
theorem Pack_f (l : List S44) (k : Nat) (hk : l.length < k) : ranges_Pack.f k l = some ([], [], 1) ∨ (Right (l.map ranges_Pack.cv) ∧ ranges_Pack.f k l = some ((packGo 4352 (l.map ranges_Pack.cv) 0 [] []).1, (packGo 4352 (l.map ranges_Pack.cv) 0 [] []).2.flatten, 0)) := by
  have hl : (l.map ranges_Pack.cv).length = l.length := List.length_map ..
  obtain ⟨e, he1, he2, he3⟩ := check_f (l.map ranges_Pack.cv) k (by omega)
  have hf : ranges_Pack.f k l = (Go.Proofs.Ytaniolefeieliaa.Base.ranges_Check.f k (l.map ranges_Pack.cv)).bind fun e => if e = 0 then some ((packGo 4352 (l.map ranges_Pack.cv) 0 [] []).1, (packGo 4352 (l.map ranges_Pack.cv) 0 [] []).2.flatten, 0) else some ([], [], 1) := rfl
  rw [hf, he1, Option.bind_some]
  rcases he2 with rfl | rfl
  · exact .inr ⟨he3 rfl, if_pos rfl⟩
  · exact .inl (if_neg (by decide))

/-! ### wakes -/
def xo : S44 := ⟨300, 301, 7⟩
theorem one_val (c : Int) : flatV [one] c = if 300 ≤ c ∧ c ≤ 301 then 7 else 0 := by
  unfold flatV
  rw [List.find?_cons]
  by_cases h : 300 ≤ c ∧ c ≤ 301
  · rw [if_pos h, (Go.Proofs.Ytaniolefeieliaa.Pk.has_iff c one).2 h]
    rfl
  · rw [if_neg h, show Go.Proofs.Ytaniolefeieliaa.Pk.hasB c one = false from by rw [← Bool.not_eq_true, Go.Proofs.Ytaniolefeieliaa.Pk.has_iff]; exact h]
    rfl
theorem Unp_zero (ix bl : List Int) (V : Int → Int) (hV : ∀ c, ranges_Get.f ix bl c = some (V c)) : ∀ (d k c : Nat) (acc : List S44), (∀ j : Nat, c ≤ j → j < c + d → V (j : Int) = 0) → c + d ≤ 1114112 → ranges_Unpack.l0 (k + d) acc (c : Int) ix bl = ranges_Unpack.l0 k acc ((c + d : Nat) : Int) ix bl := by
  intro d
  induction d with
  | zero => intro k c acc _ _; rfl
  | succ d ih =>
    intro k c acc hv hc
    rw [show k + (d + 1) = (k + d) + 1 by omega]
    simp only [ranges_Unpack.l0]
    rw [if_pos (by omega), hV, Option.bind_some, if_pos (hv c (Nat.le_refl _) (by omega)), w64 (by omega) (by omega), show ((c : Int) + 1) = ((c + 1 : Nat) : Int) by omega, ih k (c + 1) acc (fun j h1 h2 => hv j (by omega) (by omega)) (by omega), show c + 1 + d = c + (d + 1) by omega]
theorem Unp_300 (ix bl : List Int) (hV : ∀ c, ranges_Get.f ix bl c = some (flatV [one] c)) (k : Nat) : ranges_Unpack.l0 (k + 1) [] ((300 : Nat) : Int) ix bl = ranges_Unpack.l0 k [⟨300, 300, 7⟩] ((301 : Nat) : Int) ix bl := by
  have V3 : flatV [one] ((300 : Nat) : Int) = 7 := by rw [one_val, if_pos (by omega)]
  have e1 : wrap64 (((300 : Nat) : Int) + 1) = ((301 : Nat) : Int) := by rw [w64 (by omega) (by omega)]; rfl
  simp only [ranges_Unpack.l0]
  rw [if_pos (by omega), hV, Option.bind_some, V3, if_neg (by decide), if_neg (by decide), if_neg (by decide), if_pos (by decide), e1]
  rfl
theorem Unp_301 (ix bl : List Int) (hV : ∀ c, ranges_Get.f ix bl c = some (flatV [one] c)) (k : Nat) : ranges_Unpack.l0 (k + 1) [⟨300, 300, 7⟩] ((301 : Nat) : Int) ix bl = ranges_Unpack.l0 k [xo] ((302 : Nat) : Int) ix bl := by
  have V3 : flatV [one] ((301 : Nat) : Int) = 7 := by rw [one_val, if_pos (by omega)]
  have e1 : wrap64 (((301 : Nat) : Int) + 1) = ((302 : Nat) : Int) := by rw [w64 (by omega) (by omega)]; rfl
  have e2 : wrap64 (((301 : Nat) : Int) - 1) = 300 := by rw [w64 (by omega) (by omega)]; rfl
  have e3 : wrap64 ((([⟨300, 300, 7⟩] : List S44).length : Int) - 1) = 0 := by rw [w64 (by simp) (by simp)]; rfl
  simp only [ranges_Unpack.l0]
  rw [if_pos (by omega), hV, Option.bind_some, V3, if_neg (by decide), if_pos (by decide), e3, if_pos (by decide), if_pos (by decide), e2, if_pos (by rfl), if_pos (by rfl), e1]
  rfl
theorem Unp_end (ix bl : List Int) (k : Nat) (acc : List S44) : ranges_Unpack.l0 (k + 1) acc ((1114112 : Nat) : Int) ix bl = some (acc, 0) := by
  simp only [ranges_Unpack.l0]
  rw [if_neg (by omega)]
theorem Unp_one (ix bl : List Int) (hV : ∀ c, ranges_Get.f ix bl c = some (flatV [one] c)) (k : Nat) (hk : 1114200 < k) : ranges_Unpack.l0 k [] 0 ix bl = some ([xo], 0) := by
  obtain ⟨D, hD⟩ : ∃ D : Nat, D = 1113810 := ⟨_, rfl⟩
  obtain ⟨k, rfl⟩ : ∃ m, k = m + 1 + D + 1 + 1 + 300 := ⟨k - (D + 303), by omega⟩
  have h0 := Unp_zero ix bl _ hV 300 (k + 1 + D + 1 + 1) 0 [] (fun j h1 h2 => by rw [one_val, if_neg (by omega)]) (by omega)
  have h2 := Unp_zero ix bl _ hV D (k + 1) 302 [xo] (fun j h1 h2 => by rw [one_val, if_neg (by omega)]) (by omega)
  rw [show ((0 : Nat) : Int) = 0 from rfl, show 0 + 300 = 300 from rfl] at h0
  rw [show 302 + D = 1114112 by omega] at h2
  rw [h0, Unp_300 ix bl hV, Unp_301 ix bl hV, h2]
  exact Unp_end ix bl k [xo]
theorem chk_one (j : Nat) : Go.Proofs.Ytaniolefeieliaa.Base.ranges_Check.f (j + 3) [one] = some 0 := by
  have hr : Go.Proofs.Ytaniolefeieliaa.Base.ranges_right.f 300 301 7 [] = some true := by decide +kernel
  unfold Go.Proofs.Ytaniolefeieliaa.Base.ranges_Check.f
  rw [if_neg (by decide)]
  show Go.Proofs.Ytaniolefeieliaa.Base.ranges_Check.l0 ((j + 2) + 1) [one] [one] 1 0 = _
  rw [Go.Proofs.Ytaniolefeieliaa.Base.ranges_Check.l0, if_pos (by decide), if_pos (by decide), if_pos (by decide), if_pos (by decide)]
  show (Go.Proofs.Ytaniolefeieliaa.Base.ranges_right.f 300 301 7 []).bind _ = _
  rw [hr, Option.bind_some, if_pos rfl]
  show Go.Proofs.Ytaniolefeieliaa.Base.ranges_Check.l0 ((j + 1) + 1) [one] [one] 1 (wrap64 (0 + 1)) = _
  rw [show wrap64 (0 + 1) = 1 from by rw [w64 (by omega) (by omega)]; rfl, Go.Proofs.Ytaniolefeieliaa.Base.ranges_Check.l0, if_neg (by decide)]
theorem chk_bad (j : Nat) : ranges_Check.f (j + 3) [(⟨0, 0, 0⟩ : S44)] = some 1 := by
  have hr : ranges_right.f 0 0 0 [] = some false := by decide +kernel
  unfold ranges_Check.f
  rw [if_neg (by decide)]
  show ranges_Check.l0 ((j + 2) + 1) [⟨0, 0, 0⟩] [⟨0, 0, 0⟩] 1 0 = _
  rw [ranges_Check.l0, if_pos (by decide), if_pos (by decide), if_pos (by decide), if_pos (by decide)]
  show (ranges_right.f 0 0 0 []).bind _ = _
  rw [hr, Option.bind_some, if_neg (by decide)]
theorem one_right : Right [one] := by
  refine ⟨fun x hx => ?_, List.pairwise_singleton _ _⟩
  rw [List.mem_singleton.1 hx]
  unfold Go.Proofs.Ytaniolefeieliaa.Pk.okS one
  decide
theorem wakes_true (k : Nat) (hk : 1114200 < k) : sobriquetlaw05_wakes.f k = some true := by
  obtain ⟨j, rfl⟩ : ∃ j, k = j + 3 := ⟨k - 3, by omega⟩
  have hchk : Go.Proofs.Ytaniolefeieliaa.Base.ranges_Check.f (j + 3) [one] = some 0 := chk_one j
  have hbad : ranges_Check.f (j + 3) [(⟨0, 0, 0⟩ : S44)] = some 1 := chk_bad j
  have hpk : ranges_Pack.f (j + 3) [(⟨300, 301, 7⟩ : S44)] = some ((packGo 4352 [one] 0 [] []).1, (packGo 4352 [one] 0 [] []).2.flatten, 0) := by
    show (Go.Proofs.Ytaniolefeieliaa.Base.ranges_Check.f (j + 3) [one]).bind _ = _
    rw [hchk, Option.bind_some, if_pos rfl]
    rfl
  have hS := pack_said [one]
  have hB : (packGo 4352 [one] 0 [] []).2.length ≤ 4352 := go_len 4352 0 [one] [] []
  have hV := Get_said [one] one_right _ _ hS hB
  have h1 := hS.1
  have hent := hS.2.2
  obtain ⟨ix, hix⟩ : ∃ ix, ix = (packGo 4352 [one] 0 [] []).1 := ⟨_, rfl⟩
  rw [← hix] at hpk h1 hent hV
  rw [pack_one] at hpk hent hV
  have hbl : ([List.replicate 256 0, blockF [one] 256] : List (List Int)).flatten.length = 512 := by decide +kernel
  have hpd : ranges_packed.f ix ([List.replicate 256 0, blockF [one] 256] : List (List Int)).flatten = some true := by
    show some (packedB ix _) = _
    unfold packedB
    rw [hbl, one_wrong, decide_eq_true h1]
    have : ix.any (badB ((512 / 256 : Nat) : Int)) = false := by
      rw [List.any_eq_false]
      intro x hx
      obtain ⟨i, hi, rfl⟩ := List.getElem_of_mem hx
      obtain ⟨m, hm1, hm2⟩ := hent i hi
      have hm := (List.getElem?_eq_some_iff.1 hm2).1
      simp only [List.length_cons, List.length_nil] at hm
      rw [hm1]
      unfold badB
      rw [decide_eq_false (by omega), decide_eq_false (by omega)]
      decide
    rw [this]
    decide
  have hun : ranges_Unpack.f (j + 3) ix ([List.replicate 256 0, blockF [one] 256] : List (List Int)).flatten = some ([xo], 0) := by
    unfold ranges_Unpack.f
    rw [hpd, Option.bind_some, if_pos rfl]
    exact Unp_one _ _ hV _ hk
  have V0 : flatV [one] 300 = 7 := by rw [one_val, if_pos (by omega)]
  have V2 : flatV [one] 302 = 0 := by rw [one_val, if_neg (by omega)]
  unfold sobriquetlaw05_wakes.f
  rw [hpk, Option.bind_some]
  dsimp only
  rw [hun, Option.bind_some]
  dsimp only
  rw [if_pos rfl, if_pos rfl, hV, Option.bind_some, V0, if_pos rfl, hV, Option.bind_some, V2, if_pos rfl, if_pos (by rw [h1]; rfl), if_pos (by rw [hbl]; rfl), if_pos (by rfl), if_pos (by decide), if_pos (by rfl), hbad, Option.bind_some]
  rfl

/-! ### Unpack: what a table's numbers tell -/
open Go.Proofs.Ytaniolefeieliaa.Pk (unp1 Inv inv_step inv_nil inv_few inv_right inv_val inv_pack check_ok)
theorem cv_last (acc : List S44) (h : 0 < acc.length) : (acc.map ranges_Pack.cv).getD ((acc.map ranges_Pack.cv).length - 1) ⟨0, 0, 0⟩ = ranges_Pack.cv (acc[acc.length - 1]) := by
  rw [List.getD_eq_getElem?_getD, List.length_map, List.getElem?_map, List.getElem?_eq_getElem (by omega)]
  rfl
theorem Unp_step (ix bl : List Int) (V : Int → Int) (hV : ∀ c, ranges_Get.f ix bl c = some (V c)) (acc : List S44) (ha : acc.length ≤ 1999) (c : Nat) (hc : c < 1114112) (k : Nat) : ∃ acc', ranges_Unpack.l0 (k + 1) acc (c : Int) ix bl = ranges_Unpack.l0 k acc' ((c + 1 : Nat) : Int) ix bl ∧ acc'.map ranges_Pack.cv = unp1 (acc.map ranges_Pack.cv) (c : Int) (V c) := by
  have ec : wrap64 ((c : Int) + 1) = ((c + 1 : Nat) : Int) := w64_nat hc (by omega)
  have eb : wrap64 ((c : Int) - 1) = (c : Int) - 1 := w64 (by omega) (by omega)
  have hml : (acc.map ranges_Pack.cv).length = acc.length := List.length_map ..
  unfold unp1
  rw [ranges_Unpack.l0, if_pos (by omega), hV, Option.bind_some, ec]
  by_cases h0 : V (c : Int) = 0
  · rw [if_pos h0, if_pos h0]
    exact ⟨acc, rfl, rfl⟩
  rw [if_neg h0, if_neg h0]
  by_cases hn : 0 < acc.length
  · have el : wrap64 ((acc.length : Int) - 1) = ((acc.length - 1 : Nat) : Int) := by rw [w64 (by omega) (by omega)]; omega
    rw [if_pos (show (acc.length : Int) > 0 by omega), el, if_pos (by omega), if_pos (by omega), rdT acc (acc.length - 1) (by omega), eb, cv_last acc hn]
    by_cases h1 : (acc[acc.length - 1]).f1 = (c : Int) - 1
    · rw [if_pos h1]
      by_cases h2 : (acc[acc.length - 1]).f2 = V (c : Int)
      · rw [if_pos h2, if_pos ⟨by rw [hml]; exact hn, h1, h2⟩, Int.toNat_natCast]
        refine ⟨_, rfl, ?_⟩
        rw [List.map_set, hml, h2]
        rfl
      · rw [if_neg h2, if_neg (by omega), if_pos (by omega), if_neg (fun q => h2 q.2.2)]
        exact ⟨_, rfl, by rw [List.map_append]; rfl⟩
    · rw [if_neg h1, if_neg (by omega), if_pos (by omega), if_neg (fun q => h1 q.2.1)]
      exact ⟨_, rfl, by rw [List.map_append]; rfl⟩
  · rw [if_neg (by omega), if_neg (by omega), if_pos (by omega), if_neg (fun q => hn (by rw [← hml]; exact q.1))]
    exact ⟨_, rfl, by rw [List.map_append]; rfl⟩
theorem Unp_loop (L : List Go.Proofs.Ytaniolefeieliaa.Base.S44) (hR : Right L) (hL : L.length ≤ 60) (ix bl : List Int) (hV : ∀ c, ranges_Get.f ix bl c = some (flatV L c)) (D : Nat) (hD : D = 1114112) : ∀ (d k c : Nat) (acc : List S44), c + d = D → d < k → Inv (flatV L) (acc.map ranges_Pack.cv) (c : Int) → ∃ U, ranges_Unpack.l0 k acc (c : Int) ix bl = some (U, 0) ∧ Inv (flatV L) (U.map ranges_Pack.cv) (D : Int) := by
  intro d
  induction d with
  | zero =>
    intro k c acc hc hk hI
    obtain ⟨k, rfl⟩ : ∃ m, k = m + 1 := ⟨k - 1, by omega⟩
    rw [ranges_Unpack.l0, if_neg (by omega)]
    obtain rfl : c = D := by omega
    exact ⟨acc, rfl, hI⟩
  | succ d ih =>
    intro k c acc hc hk hI
    obtain ⟨k, rfl⟩ : ∃ m, k = m + 1 := ⟨k - 1, by omega⟩
    have hf := inv_few L hR _ _ hI
    rw [List.length_map] at hf
    obtain ⟨acc', h1, h2⟩ := Unp_step ix bl _ hV acc (by omega) c (by omega) k
    rw [h1]
    refine ih k (c + 1) acc' (by omega) (by omega) ?_
    rw [h2]
    exact inv_step _ (flat_out hR _ (.inl (by decide))) _ _ (by omega) hI

theorem packed_ok (ix : List Int) (bs : List (List Int)) (L : List Go.Proofs.Ytaniolefeieliaa.Base.S44) (hR : Right L) (hS : Said L ix bs 4352) (hbs : ∀ b ∈ bs, ∃ j : Nat, b = blockF L (256 * (j : Int))) (hn : bs.length ≤ 4352) : ranges_packed.f ix bs.flatten = some true := by
  show some (packedB ix _) = _
  obtain ⟨h1, h2, hent⟩ := hS
  have hfl := Go.Proofs.Ytaniolefeieliaa.Pk.flat_len h2
  have hw : bs.flatten.any wrongB = false := by
    rw [List.any_eq_false]
    intro x hx
    obtain ⟨b, hb, hxb⟩ := List.mem_flatten.1 hx
    obtain ⟨j, rfl⟩ := hbs b hb
    unfold blockF at hxb
    obtain ⟨r, _, rfl⟩ := List.mem_map.1 hxb
    rw [← flat_val hR]
    have hv : 0 ≤ flatV L (256 * (j : Int) + (r : Int)) ∧ flatV L (256 * (j : Int) + (r : Int)) ≤ 65535 := by
      by_cases q : flatV L (256 * (j : Int) + (r : Int)) = 0
      · omega
      · obtain ⟨y, hy, _, _, e⟩ := Go.Proofs.Ytaniolefeieliaa.Pk.flat_in q
        have := hR.1 y hy
        unfold Go.Proofs.Ytaniolefeieliaa.Pk.okS at this
        omega
    unfold wrongB
    rw [decide_eq_false (by omega), decide_eq_false (by omega)]
    decide
  unfold packedB
  rw [hw, decide_eq_true h1]
  have e : bs.flatten.length / 256 = bs.length := by rw [hfl]; omega
  have e2 : bs.flatten.length % 256 = 0 := by rw [hfl]; omega
  have : ix.any (badB ((bs.flatten.length / 256 : Nat) : Int)) = false := by
    rw [List.any_eq_false]
    intro x hx
    obtain ⟨i, hi, rfl⟩ := List.getElem_of_mem hx
    obtain ⟨m, hm1, hm2⟩ := hent i hi
    have hm := (List.getElem?_eq_some_iff.1 hm2).1
    rw [hm1, e]
    unfold badB
    rw [decide_eq_false (by omega), decide_eq_false (by omega)]
    decide
  rw [this, decide_eq_true e2]
  decide
theorem Back_l0 (l u : List S44) (hl : l.length ≤ 60) (hR : Right (l.map ranges_Pack.cv)) (hu : u.length ≤ 60) (hI : Inv (flatV (l.map ranges_Pack.cv)) (u.map ranges_Pack.cv) 1114112) : ∀ (d k i : Nat), i + d = u.length → d + 1200000 < k → sobriquetlaw05_RangesBack.l0 k l u (i : Int) = some true := by
  intro d
  induction d with
  | zero =>
    intro k i hi hk
    obtain ⟨k, rfl⟩ : ∃ m, k = m + 1 := ⟨k - 1, by omega⟩
    rw [sobriquetlaw05_RangesBack.l0, if_neg (by omega), wakes_true k (by omega)]
    rfl
  | succ d ih =>
    intro k i hi hk
    obtain ⟨k, rfl⟩ : ∃ m, k = m + 1 := ⟨k - 1, by omega⟩
    have hil : i < u.length := by omega
    have hx := hI.ok (ranges_Pack.cv u[i]) (List.mem_map.2 ⟨_, List.getElem_mem hil, rfl⟩)
    obtain ⟨a1, a2, a3, a4, a5, a6⟩ := hx
    replace a1 : 0 ≤ (u[i]).f0 := a1
    replace a2 : (u[i]).f0 ≤ (u[i]).f1 := a2
    replace a3 : (u[i]).f1 < 1114112 := a3
    replace a5 : flatV (l.map ranges_Pack.cv) ((u[i]).f0 - 1) ≠ (u[i]).f2 := a5
    replace a6 : ∀ j, (u[i]).f0 ≤ j → j ≤ (u[i]).f1 → flatV (l.map ranges_Pack.cv) j = (u[i]).f2 := a6
    have f0 := Flat_f l (by omega) (u[i]).f0 k (by omega)
    have f1 := Flat_f l (by omega) (u[i]).f1 k (by omega)
    rw [a6 _ (Int.le_refl _) a2] at f0
    rw [a6 _ a2 (Int.le_refl _)] at f1
    have hih := ih k (i + 1) (by omega) (by omega)
    rw [← w64_nat hil (by omega)] at hih
    have g0 : ((i : Nat) : Int) < (u.length : Int) := by omega
    have g1 : (0 : Int) ≤ (i : Int) := by omega
    rw [sobriquetlaw05_RangesBack.l0, if_pos g0, rdT u i hil]
    by_cases hi0 : (i : Int) > 0
    · have hil2 : i - 1 < u.length := by omega
      have e1 : wrap64 ((i : Int) - 1) = ((i - 1 : Nat) : Int) := by rw [w64 (by omega) (by omega)]; omega
      have e2 : wrap64 ((u[i]).f0 - 1) = (u[i]).f0 - 1 := w64 (by omega) (by omega)
      rw [if_pos hi0, e1, if_pos (by omega), if_pos (by omega), if_pos g1, rdT u (i - 1) hil2, e2]
      by_cases q1 : (u[i - 1]).f1 = (u[i]).f0 - 1
      · rw [if_pos q1]
        obtain ⟨b1, b2, b3, b4, b5, b6⟩ := hI.ok (ranges_Pack.cv u[i - 1]) (List.mem_map.2 ⟨_, List.getElem_mem hil2, rfl⟩)
        have q2 : ¬ (u[i - 1]).f2 = (u[i]).f2 := fun q => a5 (by rw [← q1, ← q]; exact b6 _ b2 (Int.le_refl _))
        rw [if_neg q2, f0, Option.bind_some, if_pos rfl, f1, Option.bind_some, if_pos rfl]
        exact hih
      · rw [if_neg q1, f0, Option.bind_some, if_pos rfl, f1, Option.bind_some, if_pos rfl]
        exact hih
    · rw [if_neg hi0, if_pos g1, f0, Option.bind_some, if_pos rfl, f1, Option.bind_some, if_pos rfl]
      exact hih
theorem Pack_same (L : List Go.Proofs.Ytaniolefeieliaa.Base.S44) (u : List S44) (hu : u.length ≤ 2000) (hR : Right L) (hI : Inv (flatV L) (u.map ranges_Pack.cv) 1114112) (k : Nat) (hk : u.length < k) : ranges_Pack.f k u = some ((packGo 4352 L 0 [] []).1, (packGo 4352 L 0 [] []).2.flatten, 0) := by
  have hf : ranges_Pack.f k u = (Go.Proofs.Ytaniolefeieliaa.Base.ranges_Check.f k (u.map ranges_Pack.cv)).bind fun e => if e = 0 then some ((packGo 4352 (u.map ranges_Pack.cv) 0 [] []).1, (packGo 4352 (u.map ranges_Pack.cv) 0 [] []).2.flatten, 0) else some ([], [], 1) := rfl
  rw [hf, check_ok _ (by rw [List.length_map]; exact hu) (inv_right L hR _ hI) k (by rw [List.length_map]; exact hk), Option.bind_some, if_pos rfl, inv_pack L hR _ hI]
theorem Stage_same (a b : List Int) (k : Nat) (ha : a.length ≤ 1200000) (hb : b.length ≤ 1200000) (hk : 1200000 < k) : sobriquetkeep_Stage.f k a b a b = some true := by
  unfold sobriquetkeep_Stage.f
  rw [Ints_f a a k (by omega) (by omega), Option.bind_some, decide_eq_true rfl, if_pos rfl, Ints_f b b k (by omega) (by omega), Option.bind_some, decide_eq_true rfl]
theorem Back_facts (L : List Go.Proofs.Ytaniolefeieliaa.Base.S44) (hR : Right L) (hL : L.length ≤ 60) : ∃ P, packGo 4352 L 0 [] [] = P ∧ (∀ c, ranges_Get.f P.1 P.2.flatten c = some (flatV L c)) ∧ ranges_packed.f P.1 P.2.flatten = some true ∧ P.1.length ≤ 1200000 ∧ P.2.flatten.length ≤ 1200000 := by
  have hS := pack_said L
  have hB : (packGo 4352 L 0 [] []).2.length ≤ 4352 := go_len 4352 0 L [] []
  have hG := Go.Proofs.Ytaniolefeieliaa.Pk.go_blocks L 4352 0 L [] [] (fun _ _ => rfl) (fun b hb => (by cases hb))
  refine ⟨_, rfl, Get_said L hR _ _ hS hB, packed_ok _ _ L hR hS hG hB, ?_, ?_⟩
  · rw [hS.1]; decide
  · rw [Go.Proofs.Ytaniolefeieliaa.Pk.flat_len hS.2.1]; omega
theorem RangesBack : sobriquetlaw05_RangesBack.Pure := by
  intro l _ _
  obtain ⟨K, hK⟩ : ∃ K : Nat, K = 2000000 := ⟨_, rfl⟩
  obtain ⟨D, hD⟩ : ∃ D : Nat, D = 1114112 := ⟨_, rfl⟩
  have hD2 : (D : Int) = 1114112 := by omega
  refine ⟨K, ?_⟩
  unfold sobriquetlaw05_RangesBack.f
  by_cases h1 : (l.length : Int) > 60
  · rw [if_pos h1]
  rw [if_neg h1]
  rcases Pack_f l K (by omega) with hP | ⟨hR, hP⟩
  · rw [hP, Option.bind_some]
    dsimp only
    rw [if_neg (by decide), if_pos rfl, wakes_true _ (by omega), Option.bind_some]
  · have hml : (l.map ranges_Pack.cv).length = l.length := List.length_map ..
    have hps := fun u hu hI hk => Pack_same (l.map ranges_Pack.cv) u hu hR hI K hk
    have hq := Back_facts (l.map ranges_Pack.cv) hR (by omega)
    revert hq
    rintro ⟨P, hPP, hG, hpk, hl1, hl2⟩
    rw [hPP] at hP hps
    obtain ⟨U, hU, hI⟩ := Unp_loop (l.map ranges_Pack.cv) hR (by omega) P.1 P.2.flatten hG D hD D K 0 [] (by omega) (by omega) (inv_nil _)
    have hun : ranges_Unpack.f K P.1 P.2.flatten = some (U, 0) := by
      unfold ranges_Unpack.f
      rw [hpk, Option.bind_some, if_pos rfl]
      exact hU
    rw [hD2] at hI
    have hf := inv_few _ hR _ _ hI
    rw [List.length_map] at hf
    have hps2 := hps U (by omega) hI (by omega)
    rw [hP, Option.bind_some]
    dsimp only
    rw [if_pos rfl, hun, Option.bind_some]
    dsimp only
    rw [hps2, Option.bind_some]
    dsimp only
    rw [if_pos rfl, if_pos rfl, Stage_same _ _ K hl1 hl2 (by omega), Option.bind_some, if_pos rfl, if_neg (by omega)]
    exact Back_l0 l U (by omega) hR (by omega) hI U.length K 0 (by omega) (by omega)

end Go.Proofs.Ytaniolefeieliaa.Pure
