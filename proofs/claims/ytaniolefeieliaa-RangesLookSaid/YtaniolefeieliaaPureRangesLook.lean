/- The statement RangesLook: what is packed is looked up as it was flat, at each number. No conditions. -/
import Derived.Test.YtaniolefeieliaaMRangesLookx3
import Derived.Test.YtaniolefeieliaaPp
namespace Go.Proofs.Ytaniolefeieliaa.Pure
open Go.RowKit Go.Proofs.Ytaniolefeieliaa.MRangesLook Go.Proofs.YtaniolefeieliaaW.PrintWords Go.Proofs.YtaniolefeieliaaW.PrintLast
set_option linter.unusedVariables false
set_option linter.unusedSimpArgs false
set_option maxHeartbeats 1000000

theorem w64 {x : Int} (h0 : -9223372036854775808 ≤ x) (h1 : x ≤ 9223372036854775807) : wrap64 x = x := by unfold wrap64; omega
theorem w64_nat {i n : Nat} (h : i < n) (hn : n ≤ 4611686018427387904) : wrap64 ((i : Int) + 1) = ((i + 1 : Nat) : Int) := by unfold wrap64; omega
theorem rd_nat (xs : List Int) (i : Nat) (h : i < xs.length) : rd xs (i : Int) = xs[i] := by simp [rd, List.getD_eq_getElem?_getD, List.getElem?_eq_getElem h]
theorem wf64 {a : Int} (h : (Lit.int .i64 a).wf = true) : -9223372036854775808 ≤ a ∧ a ≤ 9223372036854775807 := by
  simpa [Lit.wf, show IntKind.i64.min = -9223372036854775808 from rfl] using h
theorem tdiv_nn {a : Int} (h : 0 ≤ a) (b : Int) : Int.tdiv a b = a / b := Int.tdiv_eq_ediv_of_nonneg h
theorem tmod_nn {a : Int} (h : 0 ≤ a) (b : Int) : Int.tmod a b = a % b := Int.tmod_eq_emod_of_nonneg h
theorem dec_iff (p q : Prop) [Decidable p] [Decidable q] (h : p ↔ q) : decide p = decide q := by simp [h]
theorem dec_t (p : Prop) [Decidable p] (h : p) : decide p = true := by simp [h]
theorem dec_f (p : Prop) [Decidable p] (h : ¬ p) : decide p = false := by simp [h]
theorem tmod_bd (a c : Int) (hc : 0 < c) : -c < Int.tmod a c ∧ Int.tmod a c < c := by
  have h1 := Int.emod_nonneg a (b := c) (by omega)
  have h2 := Int.emod_lt_of_pos a hc
  have h3 : ((c.natAbs : Nat) : Int) = c := by omega
  have h4 := Int.tmod_lt_of_pos a hc
  refine ⟨?_, h4⟩
  rw [Int.tmod_eq_emod]
  split
  · omega
  · rename_i h
    have : a % c ≠ 0 := fun e => h (.inr (Int.dvd_of_emod_eq_zero e))
    omega
theorem w64l (x y : Int) (h : x = y ∧ -9223372036854775808 ≤ y ∧ y ≤ 9223372036854775807) : wrap64 x = y := by rw [h.1]; exact w64 h.2.1 h.2.2

open Go.Proofs.Ytaniolefeieliaa.Pk (valF flatV flat_val flat_at flat_out Right Said pack_said go_len block_at flat_get packGo blockF check_f pack_one one one_wrong packedB wrongB badB)
theorem rdn (xs : List Int) (i : Nat) (v : Int) (h : xs[i]? = some v) : rd xs (i : Int) = v := by simp [rd, List.getD_eq_getElem?_getD, h]
theorem rdT (l : List S44) (i : Nat) (h : i < l.length) : rd_T44 l (i : Int) = l[i] := by simp [rd_T44, List.getD_eq_getElem?_getD, List.getElem?_eq_getElem h]
theorem dm1 (c : Int) (h0 : 0 ≤ c) (h1 : c ≤ 1114111) : ∃ j r : Nat, wrap64 (Int.tdiv c 256) = (j : Int) ∧ Int.tmod c 256 = (r : Int) ∧ j < 4352 ∧ r < 256 ∧ 256 * (j : Int) + (r : Int) = c := by
  refine ⟨(c / 256).toNat, (c % 256).toNat, ?_, ?_, ?_, ?_, ?_⟩
  · rw [tdiv_nn h0, w64 (by omega) (by omega)]; omega
  · rw [tmod_nn h0]; omega
  · omega
  · omega
  · omega
theorem dm2 (m n r : Nat) (hm : m < n) (hn : n ≤ 4352) (hr : r < 256) : wrap64 (wrap64 ((m : Int) * 256) + (r : Int)) = ((256 * m + r : Nat) : Int) := by
  rw [w64 (x := (m : Int) * 256) (by omega) (by omega), w64 (by omega) (by omega)]
  omega
theorem dm3 (n : Nat) (hn : n ≤ 4352) : wrap64 (((n * 256 : Nat) : Int) / 256) = (n : Int) := by
  rw [w64 (by omega) (by omega)]
  omega
theorem dm4 (m n r : Nat) (hm : m < n) (hr : r < 256) : ((256 * m + r : Nat) : Int) < ((n * 256 : Nat) : Int) := by omega
/-- What a packed table tells. -/
theorem Get_said (L : List Go.Proofs.Ytaniolefeieliaa.Base.S44) (hR : Right L) (ix : List Int) (bs : List (List Int)) (hS : Said L ix bs 4352) (hb : bs.length ≤ 4352) (c : Int) : ranges_Get.f ix bs.flatten c = some (flatV L c) := by
  obtain ⟨h1, h2, h3⟩ := hS
  have hfl := Go.Proofs.Ytaniolefeieliaa.Pk.flat_len h2
  obtain ⟨bl, hbl⟩ : ∃ bl, bl = bs.flatten := ⟨_, rfl⟩
  rw [← hbl] at hfl ⊢
  unfold ranges_Get.f
  by_cases c0 : c < 0
  · rw [if_pos c0, flat_out hR c (.inl c0)]
  rw [if_neg c0]
  by_cases c1 : c > 1114111
  · rw [if_pos c1, flat_out hR c (.inr c1)]
  rw [if_neg c1]
  obtain ⟨j, r, e1, e2, hj, hr, hc⟩ := dm1 c (Int.not_lt.1 c0) (Int.not_lt.1 c1)
  have hjl : j < ix.length := by rw [h1]; exact hj
  obtain ⟨m, hm1, hm2⟩ := h3 j hjl
  have hmb : m < bs.length := (List.getElem?_eq_some_iff.1 hm2).1
  have e3 : rd ix (j : Int) = (m : Int) := by rw [rd_nat ix j hjl]; exact hm1
  have e4 : wrap64 ((bl.length : Int) / 256) = (bs.length : Int) := by rw [hfl]; exact dm3 _ hb
  have e5 := dm2 m bs.length r hmb hb hr
  have hv := (flat_get bs m r _ h2 hm2 hr).trans (block_at L (256 * (j : Int)) r hr)
  rw [hc, ← hbl] at hv
  have g1 : ¬ ((j : Int) ≥ (ix.length : Int)) := fun h => absurd (Int.ofNat_le.1 h) (Nat.not_le.2 hjl)
  have g2 : (j : Int) < (ix.length : Int) := Int.ofNat_lt.2 hjl
  have g3 : ¬ ((m : Int) < 0) := Int.not_lt.2 (Int.natCast_nonneg _)
  have g4 : ¬ ((m : Int) ≥ (bs.length : Int)) := fun h => absurd (Int.ofNat_le.1 h) (Nat.not_le.2 hmb)
  have g5 : (0 : Int) ≤ ((256 * m + r : Nat) : Int) := Int.natCast_nonneg _
  have g6 : ((256 * m + r : Nat) : Int) < (bl.length : Int) := by rw [hfl]; exact dm4 m bs.length r hmb hr
  rw [e1, if_neg g1, if_pos (Int.natCast_nonneg _), if_pos g2, e3, if_neg g3, e4, if_neg g4, e2, e5, if_pos g5, if_pos g6, rdn _ _ _ hv, flat_val hR]
theorem Flat_l0 (l : List S44) (hm : l.length ≤ 2000) (c : Int) : ∀ (d k i : Nat), i + d = l.length → d < k → ranges_Flat.l0 k c l (l.length : Int) (i : Int) = some (flatV ((l.drop i).map ranges_Pack.cv) c) := by
  intro d
  induction d with
  | zero =>
    intro k i hi hk
    obtain ⟨k, rfl⟩ : ∃ m, k = m + 1 := ⟨k - 1, by omega⟩
    simp only [ranges_Flat.l0]
    rw [if_neg (by omega), List.drop_eq_nil_of_le (by omega)]
    rfl
  | succ d ih =>
    intro k i hi hk
    obtain ⟨k, rfl⟩ : ∃ m, k = m + 1 := ⟨k - 1, by omega⟩
    have hil : i < l.length := by omega
    simp only [ranges_Flat.l0]
    rw [if_pos (by omega), if_pos (by omega), if_pos (by omega), rdT l i hil, w64_nat hil (by omega), ih k (i + 1) (by omega) (by omega), List.drop_eq_getElem_cons hil, List.map_cons]
    have e : flatV (ranges_Pack.cv l[i] :: (l.drop (i + 1)).map ranges_Pack.cv) c = if (l[i]).f0 ≤ c then (if c ≤ (l[i]).f1 then (l[i]).f2 else flatV ((l.drop (i + 1)).map ranges_Pack.cv) c) else flatV ((l.drop (i + 1)).map ranges_Pack.cv) c := by
      unfold flatV
      rw [List.find?_cons]
      by_cases q0 : (l[i]).f0 ≤ c
      · by_cases q1 : c ≤ (l[i]).f1
        · rw [if_pos q0, if_pos q1, (Go.Proofs.Ytaniolefeieliaa.Pk.has_iff c (ranges_Pack.cv l[i])).2 ⟨q0, q1⟩]
          rfl
        · rw [if_pos q0, if_neg q1, show Go.Proofs.Ytaniolefeieliaa.Pk.hasB c (ranges_Pack.cv l[i]) = false from by rw [← Bool.not_eq_true, Go.Proofs.Ytaniolefeieliaa.Pk.has_iff]; exact fun h => q1 h.2]
      · rw [if_neg q0, show Go.Proofs.Ytaniolefeieliaa.Pk.hasB c (ranges_Pack.cv l[i]) = false from by rw [← Bool.not_eq_true, Go.Proofs.Ytaniolefeieliaa.Pk.has_iff]; exact fun h => q0 h.1]
    rw [e]
    by_cases q0 : (l[i]).f0 ≤ c
    · rw [if_pos q0, if_pos q0]
      by_cases q1 : c ≤ (l[i]).f1
      · rw [if_pos q1, if_pos q1]
      · rw [if_neg q1, if_neg q1]
    · rw [if_neg q0, if_neg q0]
theorem Flat_f (l : List S44) (hm : l.length ≤ 2000) (c : Int) (k : Nat) (hk : l.length < k) : ranges_Flat.f k l c = some (flatV (l.map ranges_Pack.cv) c) := by
  unfold ranges_Flat.f
  have := Flat_l0 l hm c l.length k 0 (by omega) hk
  simpa using this
/-- Pack: not right, or what packGo says. -/
theorem Pack_f (l : List S44) (k : Nat) (hk : l.length < k) : ranges_Pack.f k l = some ([], [], 1) ∨ (Right (l.map ranges_Pack.cv) ∧ ranges_Pack.f k l = some ((packGo 4352 (l.map ranges_Pack.cv) 0 [] []).1, (packGo 4352 (l.map ranges_Pack.cv) 0 [] []).2.flatten, 0)) := by
  have hl : (l.map ranges_Pack.cv).length = l.length := List.length_map ..
  obtain ⟨e, he1, he2, he3⟩ := check_f (l.map ranges_Pack.cv) k (by omega)
  have hf : ranges_Pack.f k l = (Go.Proofs.Ytaniolefeieliaa.Base.ranges_Check.f k (l.map ranges_Pack.cv)).bind fun e => if e = 0 then some ((packGo 4352 (l.map ranges_Pack.cv) 0 [] []).1, (packGo 4352 (l.map ranges_Pack.cv) 0 [] []).2.flatten, 0) else some ([], [], 1) := rfl
  rw [hf, he1, Option.bind_some]
  rcases he2 with rfl | rfl
  · exact .inr ⟨he3 rfl, if_pos rfl⟩
  · exact .inl (if_neg (by decide))

/-! ### wakes -/
def xo : S44 := ⟨300, 301, 7⟩
theorem one_val (c : Int) : flatV [one] c = if 300 ≤ c ∧ c ≤ 301 then 7 else 0 := by
  unfold flatV
  rw [List.find?_cons]
  by_cases h : 300 ≤ c ∧ c ≤ 301
  · rw [if_pos h, (Go.Proofs.Ytaniolefeieliaa.Pk.has_iff c one).2 h]
    rfl
  · rw [if_neg h, show Go.Proofs.Ytaniolefeieliaa.Pk.hasB c one = false from by rw [← Bool.not_eq_true, Go.Proofs.Ytaniolefeieliaa.Pk.has_iff]; exact h]
    rfl
theorem Unp_zero (ix bl : List Int) (V : Int → Int) (hV : ∀ c, ranges_Get.f ix bl c = some (V c)) : ∀ (d k c : Nat) (acc : List S44), (∀ j : Nat, c ≤ j → j < c + d → V (j : Int) = 0) → c + d ≤ 1114112 → ranges_Unpack.l0 (k + d) acc (c : Int) ix bl = ranges_Unpack.l0 k acc ((c + d : Nat) : Int) ix bl := by
  intro d
  induction d with
  | zero => intro k c acc _ _; rfl
  | succ d ih =>
    intro k c acc hv hc
    rw [show k + (d + 1) = (k + d) + 1 by omega]
    simp only [ranges_Unpack.l0]
    rw [if_pos (by omega), hV, Option.bind_some, if_pos (hv c (Nat.le_refl _) (by omega)), w64 (by omega) (by omega), show ((c : Int) + 1) = ((c + 1 : Nat) : Int) by omega, ih k (c + 1) acc (fun j h1 h2 => hv j (by omega) (by omega)) (by omega), show c + 1 + d = c + (d + 1) by omega]
theorem Unp_300 (ix bl : List Int) (hV : ∀ c, ranges_Get.f ix bl c = some (flatV [one] c)) (k : Nat) : ranges_Unpack.l0 (k + 1) [] ((300 : Nat) : Int) ix bl = ranges_Unpack.l0 k [⟨300, 300, 7⟩] ((301 : Nat) : Int) ix bl := by
  have V3 : flatV [one] ((300 : Nat) : Int) = 7 := by rw [one_val, if_pos (by omega)]
  have e1 : wrap64 (((300 : Nat) : Int) + 1) = ((301 : Nat) : Int) := by rw [w64 (by omega) (by omega)]; rfl
  simp only [ranges_Unpack.l0]
  rw [if_pos (by omega), hV, Option.bind_some, V3, if_neg (by decide), if_neg (by decide), if_neg (by decide), if_pos (by decide), e1]
  rfl
theorem Unp_301 (ix bl : List Int) (hV : ∀ c, ranges_Get.f ix bl c = some (flatV [one] c)) (k : Nat) : ranges_Unpack.l0 (k + 1) [⟨300, 300, 7⟩] ((301 : Nat) : Int) ix bl = ranges_Unpack.l0 k [xo] ((302 : Nat) : Int) ix bl := by
  have V3 : flatV [one] ((301 : Nat) : Int) = 7 := by rw [one_val, if_pos (by omega)]
  have e1 : wrap64 (((301 : Nat) : Int) + 1) = ((302 : Nat) : Int) := by rw [w64 (by omega) (by omega)]; rfl
  have e2 : wrap64 (((301 : Nat) : Int) - 1) = 300 := by rw [w64 (by omega) (by omega)]; rfl
  have e3 : wrap64 ((([⟨300, 300, 7⟩] : List S44).length : Int) - 1) = 0 := by rw [w64 (by simp) (by simp)]; rfl
  simp only [ranges_Unpack.l0]
  rw [if_pos (by omega), hV, Option.bind_some, V3, if_neg (by decide), if_pos (by decide), e3, if_pos (by decide), if_pos (by decide), e2, if_pos (by rfl), if_pos (by rfl), e1]
  rfl
theorem Unp_end (ix bl : List Int) (k : Nat) (acc : List S44) : ranges_Unpack.l0 (k + 1) acc ((1114112 : Nat) : Int) ix bl = some (acc, 0) := by
  simp only [ranges_Unpack.l0]
  rw [if_neg (by omega)]
theorem Unp_one (ix bl : List Int) (hV : ∀ c, ranges_Get.f ix bl c = some (flatV [one] c)) (k : Nat) (hk : 1114200 < k) : ranges_Unpack.l0 k [] 0 ix bl = some ([xo], 0) := by
  obtain ⟨D, hD⟩ : ∃ D : Nat, D = 1113810 := ⟨_, rfl⟩
  obtain ⟨k, rfl⟩ : ∃ m, k = m + 1 + D + 1 + 1 + 300 := ⟨k - (D + 303), by omega⟩
  have h0 := Unp_zero ix bl _ hV 300 (k + 1 + D + 1 + 1) 0 [] (fun j h1 h2 => by rw [one_val, if_neg (by omega)]) (by omega)
  have h2 := Unp_zero ix bl _ hV D (k + 1) 302 [xo] (fun j h1 h2 => by rw [one_val, if_neg (by omega)]) (by omega)
  rw [show ((0 : Nat) : Int) = 0 from rfl, show 0 + 300 = 300 from rfl] at h0
  rw [show 302 + D = 1114112 by omega] at h2
  rw [h0, Unp_300 ix bl hV, Unp_301 ix bl hV, h2]
  exact Unp_end ix bl k [xo]
theorem chk_one (j : Nat) : Go.Proofs.Ytaniolefeieliaa.Base.ranges_Check.f (j + 3) [one] = some 0 := by
  have hr : Go.Proofs.Ytaniolefeieliaa.Base.ranges_right.f 300 301 7 [] = some true := by decide +kernel
  unfold Go.Proofs.Ytaniolefeieliaa.Base.ranges_Check.f
  rw [if_neg (by decide)]
  show Go.Proofs.Ytaniolefeieliaa.Base.ranges_Check.l0 ((j + 2) + 1) [one] [one] 1 0 = _
  rw [Go.Proofs.Ytaniolefeieliaa.Base.ranges_Check.l0, if_pos (by decide), if_pos (by decide), if_pos (by decide), if_pos (by decide)]
  show (Go.Proofs.Ytaniolefeieliaa.Base.ranges_right.f 300 301 7 []).bind _ = _
  rw [hr, Option.bind_some, if_pos rfl]
  show Go.Proofs.Ytaniolefeieliaa.Base.ranges_Check.l0 ((j + 1) + 1) [one] [one] 1 (wrap64 (0 + 1)) = _
  rw [show wrap64 (0 + 1) = 1 from by rw [w64 (by omega) (by omega)]; rfl, Go.Proofs.Ytaniolefeieliaa.Base.ranges_Check.l0, if_neg (by decide)]
theorem chk_bad (j : Nat) : ranges_Check.f (j + 3) [(⟨0, 0, 0⟩ : S44)] = some 1 := by
  have hr : ranges_right.f 0 0 0 [] = some false := by decide +kernel
  unfold ranges_Check.f
  rw [if_neg (by decide)]
  show ranges_Check.l0 ((j + 2) + 1) [⟨0, 0, 0⟩] [⟨0, 0, 0⟩] 1 0 = _
  rw [ranges_Check.l0, if_pos (by decide), if_pos (by decide), if_pos (by decide), if_pos (by decide)]
  show (ranges_right.f 0 0 0 []).bind _ = _
  rw [hr, Option.bind_some, if_neg (by decide)]
theorem one_right : Right [one] := by
  refine ⟨fun x hx => ?_, List.pairwise_singleton _ _⟩
  rw [List.mem_singleton.1 hx]
  unfold Go.Proofs.Ytaniolefeieliaa.Pk.okS one
  decide
theorem wakes_true (k : Nat) (hk : 1114200 < k) : sobriquetlaw05_wakes.f k = some true := by
  obtain ⟨j, rfl⟩ : ∃ j, k = j + 3 := ⟨k - 3, by omega⟩
  have hchk : Go.Proofs.Ytaniolefeieliaa.Base.ranges_Check.f (j + 3) [one] = some 0 := chk_one j
  have hbad : ranges_Check.f (j + 3) [(⟨0, 0, 0⟩ : S44)] = some 1 := chk_bad j
  have hpk : ranges_Pack.f (j + 3) [(⟨300, 301, 7⟩ : S44)] = some ((packGo 4352 [one] 0 [] []).1, (packGo 4352 [one] 0 [] []).2.flatten, 0) := by
    show (Go.Proofs.Ytaniolefeieliaa.Base.ranges_Check.f (j + 3) [one]).bind _ = _
    rw [hchk, Option.bind_some, if_pos rfl]
    rfl
  have hS := pack_said [one]
  have hB : (packGo 4352 [one] 0 [] []).2.length ≤ 4352 := go_len 4352 0 [one] [] []
  have hV := Get_said [one] one_right _ _ hS hB
  have h1 := hS.1
  have hent := hS.2.2
  obtain ⟨ix, hix⟩ : ∃ ix, ix = (packGo 4352 [one] 0 [] []).1 := ⟨_, rfl⟩
  rw [← hix] at hpk h1 hent hV
  rw [pack_one] at hpk hent hV
  have hbl : ([List.replicate 256 0, blockF [one] 256] : List (List Int)).flatten.length = 512 := by decide +kernel
  have hpd : ranges_packed.f ix ([List.replicate 256 0, blockF [one] 256] : List (List Int)).flatten = some true := by
    show some (packedB ix _) = _
    unfold packedB
    rw [hbl, one_wrong, decide_eq_true h1]
    have : ix.any (badB ((512 / 256 : Nat) : Int)) = false := by
      rw [List.any_eq_false]
      intro x hx
      obtain ⟨i, hi, rfl⟩ := List.getElem_of_mem hx
      obtain ⟨m, hm1, hm2⟩ := hent i hi
      have hm := (List.getElem?_eq_some_iff.1 hm2).1
      simp only [List.length_cons, List.length_nil] at hm
      rw [hm1]
      unfold badB
      rw [decide_eq_false (by omega), decide_eq_false (by omega)]
      decide
    rw [this]
    decide
  have hun : ranges_Unpack.f (j + 3) ix ([List.replicate 256 0, blockF [one] 256] : List (List Int)).flatten = some ([xo], 0) := by
    unfold ranges_Unpack.f
    rw [hpd, Option.bind_some, if_pos rfl]
    exact Unp_one _ _ hV _ hk
  have V0 : flatV [one] 300 = 7 := by rw [one_val, if_pos (by omega)]
  have V2 : flatV [one] 302 = 0 := by rw [one_val, if_neg (by omega)]
  unfold sobriquetlaw05_wakes.f
  rw [hpk, Option.bind_some]
  dsimp only
  rw [hun, Option.bind_some]
  dsimp only
  rw [if_pos rfl, if_pos rfl, hV, Option.bind_some, V0, if_pos rfl, hV, Option.bind_some, V2, if_pos rfl, if_pos (by rw [h1]; rfl), if_pos (by rw [hbl]; rfl), if_pos (by rfl), if_pos (by decide), if_pos (by rfl), hbad, Option.bind_some]
  rfl

theorem Look_l1 (l : List S44) (hm : l.length ≤ 60) (hR : Right (l.map ranges_Pack.cv)) (ix bl : List Int) (hV : ∀ c, ranges_Get.f ix bl c = some (flatV (l.map ranges_Pack.cv) c)) : ∀ (d k i : Nat), i + d = l.length → d + 1200000 < k → sobriquetlaw05_RangesLook.l1 k l (i : Int) ix bl = some true := by
  intro d
  induction d with
  | zero =>
    intro k i hi hk
    obtain ⟨k, rfl⟩ : ∃ m, k = m + 1 := ⟨k - 1, by omega⟩
    simp only [sobriquetlaw05_RangesLook.l1]
    rw [if_neg (by omega), hV, Option.bind_some, flat_out hR _ (.inl (by decide)), if_pos rfl, hV, Option.bind_some, flat_out hR _ (.inr (by decide)), if_pos rfl, wakes_true k (by omega), Option.bind_some]
  | succ d ih =>
    intro k i hi hk
    obtain ⟨k, rfl⟩ : ∃ m, k = m + 1 := ⟨k - 1, by omega⟩
    have hil : i < l.length := by omega
    have hil2 : i < (l.map ranges_Pack.cv).length := by rw [List.length_map]; exact hil
    have hx := hR.1 _ (List.getElem_mem hil2)
    have hat := flat_at hR i hil2
    rw [List.getElem_map] at hx hat
    have hx' : 0 ≤ (l[i]).f0 ∧ (l[i]).f0 ≤ (l[i]).f1 ∧ (l[i]).f1 ≤ 1114111 ∧ 1 ≤ (l[i]).f2 ∧ (l[i]).f2 ≤ 65535 := hx
    have h0 : flatV (l.map ranges_Pack.cv) (l[i]).f0 = (l[i]).f2 := hat _ ⟨Int.le_refl _, hx'.2.1⟩
    have h1 : flatV (l.map ranges_Pack.cv) (l[i]).f1 = (l[i]).f2 := hat _ ⟨hx'.2.1, Int.le_refl _⟩
    simp only [sobriquetlaw05_RangesLook.l1]
    rw [if_pos (by omega), if_pos (by omega), rdT l i hil, hV, Option.bind_some, if_pos h0, hV, Option.bind_some, if_pos h1, hV, Option.bind_some, Flat_f l (by omega) _ k (by omega), Option.bind_some, if_pos rfl, w64_nat hil (by omega)]
    exact ih k (i + 1) (by omega) (by omega)
theorem Look_l0 (l : List S44) (hm : l.length ≤ 60) (hR : Right (l.map ranges_Pack.cv)) (q : List Int) (hq : q.length ≤ 60) (ix bl : List Int) (hV : ∀ c, ranges_Get.f ix bl c = some (flatV (l.map ranges_Pack.cv) c)) : ∀ (d k i : Nat), i + d = q.length → d + 1300000 < k → sobriquetlaw05_RangesLook.l0 k l q (i : Int) ix bl = some true := by
  intro d
  induction d with
  | zero =>
    intro k i hi hk
    obtain ⟨k, rfl⟩ : ∃ m, k = m + 1 := ⟨k - 1, by omega⟩
    simp only [sobriquetlaw05_RangesLook.l0]
    rw [if_neg (by omega)]
    exact Look_l1 l hm hR ix bl hV l.length k 0 (by omega) (by omega)
  | succ d ih =>
    intro k i hi hk
    obtain ⟨k, rfl⟩ : ∃ m, k = m + 1 := ⟨k - 1, by omega⟩
    have hil : i < q.length := by omega
    simp only [sobriquetlaw05_RangesLook.l0]
    rw [if_pos (by omega), if_pos (by omega), hV, Option.bind_some, Flat_f l (by omega) _ k (by omega), Option.bind_some, if_pos rfl, w64_nat hil (by omega)]
    exact ih k (i + 1) (by omega) (by omega)
theorem RangesLook : sobriquetlaw05_RangesLook.Pure := by
  intro l q _ _ _ _ _
  obtain ⟨K, hK⟩ : ∃ K : Nat, K = 2000000 := ⟨_, rfl⟩
  refine ⟨K, ?_⟩
  unfold sobriquetlaw05_RangesLook.f
  by_cases h1 : (l.length : Int) > 60
  · rw [if_pos h1]
  rw [if_neg h1]
  by_cases h2 : (q.length : Int) > 60
  · rw [if_pos h2]
  rw [if_neg h2]
  rcases Pack_f l K (by omega) with hP | ⟨hR, hP⟩
  · rw [hP, Option.bind_some]
    dsimp only
    rw [if_neg (by decide), if_pos rfl, wakes_true _ (by omega), Option.bind_some]
  · rw [hP, Option.bind_some]
    dsimp only
    rw [if_pos rfl]
    have hB : (packGo 4352 (l.map ranges_Pack.cv) 0 [] []).2.length ≤ 4352 := go_len 4352 0 (l.map ranges_Pack.cv) [] []
    exact Look_l0 l (by omega) hR q (by omega) _ _ (Get_said _ hR _ _ (pack_said (l.map ranges_Pack.cv)) hB) q.length _ 0 (by omega) (by omega)

end Go.Proofs.Ytaniolefeieliaa.Pure
