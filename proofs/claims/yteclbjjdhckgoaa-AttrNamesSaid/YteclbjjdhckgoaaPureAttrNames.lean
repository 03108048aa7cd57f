/- The pure side of AttrNames: each attribute type is found by its Oid and by its Name in any mixture of cases, and no two have the same. No condition. -/
import Derived.Test.YteclbjjdhckgoaaCAttrNamesx3
namespace Go.Proofs.Yteclbjjdhckgoaa.Pure
open Go.RowKit Go.Proofs.Yteclbjjdhckgoaa.CAttrNames Go.Proofs.YteclbjjdhckgoaaW.PrintWords Go.Proofs.YteclbjjdhckgoaaW.PrintLast
set_option linter.unusedVariables false
set_option linter.unusedSimpArgs false
set_option maxHeartbeats 1000000
theorem w64 {x : Int} (h0 : -9223372036854775808 ≤ x) (h1 : x ≤ 9223372036854775807) : wrap64 x = x := by unfold wrap64; omega
theorem w64_nat {i n : Nat} (h : i < n) (hn : n ≤ 4611686018427387904) : wrap64 ((i : Int) + 1) = ((i + 1 : Nat) : Int) := by unfold wrap64; omega
theorem rd_nat (xs : List Int) (i : Nat) (h : i < xs.length) : rd xs (i : Int) = xs[i] := by simp [rd, List.getD_eq_getElem?_getD, List.getElem?_eq_getElem h]
theorem wf64 {a : Int} (h : (Lit.int .i64 a).wf = true) : -9223372036854775808 ≤ a ∧ a ≤ 9223372036854775807 := by
  simpa [Lit.wf, show IntKind.i64.min = -9223372036854775808 from rfl] using h
theorem tdiv_nn {a : Int} (h : 0 ≤ a) (b : Int) : Int.tdiv a b = a / b := Int.tdiv_eq_ediv_of_nonneg h
theorem tmod_nn {a : Int} (h : 0 ≤ a) (b : Int) : Int.tmod a b = a % b := Int.tmod_eq_emod_of_nonneg h
theorem dec_iff (p q : Prop) [Decidable p] [Decidable q] (h : p ↔ q) : decide p = decide q := by simp [h]
theorem dec_t (p : Prop) [Decidable p] (h : p) : decide p = true := by simp [h]
theorem dec_f (p : Prop) [Decidable p] (h : ¬ p) : decide p = false := by simp [h]
theorem tmod_bd (a c : Int) (hc : 0 < c) : -c < Int.tmod a c ∧ Int.tmod a c < c := by
  have h1 := Int.emod_nonneg a (b := c) (by omega)
  have h2 := Int.emod_lt_of_pos a hc
  have h3 : ((c.natAbs : Nat) : Int) = c := by omega
  have h4 := Int.tmod_lt_of_pos a hc
  refine ⟨?_, h4⟩
  rw [Int.tmod_eq_emod]
  split
  · omega
  · rename_i h
    have : a % c ≠ 0 := fun e => h (.inr (Int.dvd_of_emod_eq_zero e))
    omega
theorem w64l (x y : Int) (h : x = y ∧ -9223372036854775808 ≤ y ∧ y ≤ 9223372036854775807) : wrap64 x = y := by rw [h.1]; exact w64 h.2.1 h.2.2
theorem u64_nn (x : Int) : 0 ≤ IntKind.u64.wrap x ∧ IntKind.u64.wrap x < 18446744073709551616 := by
  have e : IntKind.u64.wrap x = x % 18446744073709551616 := by simp [IntKind.wrap, show IntKind.u64.signed = false from rfl, show IntKind.u64.bits = 64 from rfl]
  rw [e]; omega
theorem u64_in (x : Int) (h : 0 ≤ x ∧ x < 18446744073709551616) : IntKind.u64.wrap x = x := by
  have e : IntKind.u64.wrap x = x % 18446744073709551616 := by simp [IntKind.wrap, show IntKind.u64.signed = false from rfl, show IntKind.u64.bits = 64 from rfl]
  rw [e]; omega
theorem umod (x c : Int) (hc : 0 < c) (hc2 : c ≤ 100000000) : ∃ n, wrap64 (Int.tmod (IntKind.u64.wrap x) c) = n ∧ 0 ≤ n ∧ n < c := by
  have h := u64_nn x
  have h1 := Int.emod_nonneg (IntKind.u64.wrap x) (b := c) (by omega)
  have h2 := Int.emod_lt_of_pos (IntKind.u64.wrap x) hc
  refine ⟨_, rfl, ?_, ?_⟩ <;> rw [tmod_nn h.1, w64 (by omega) (by omega)]
  · exact h1
  · exact h2

def attrsL : List S27 := (api_Attrs.f).getD []
theorem attrs_f : api_Attrs.f = some attrsL := by unfold attrsL; rfl
/-- The two bytes are one letter, small or large, or are the same byte. -/
def Alike (a b : Int) : Prop := 0 ≤ a ∧ a ≤ 255 ∧ attr_large.f a = attr_large.f b
theorem bt_strOfNums (x : List Int) (hx : ∀ v ∈ x, 0 ≤ v ∧ v ≤ 255) (j : Int) : bt (strOfNums x) j = rd x j := by
  unfold bt rd
  by_cases h : j.toNat < x.length
  · rw [dif_pos (by rw [strOfNums_size]; exact h), List.getD_eq_getElem?_getD, List.getElem?_eq_getElem h, Option.getD_some]
    have hv := hx _ (List.getElem_mem h)
    have e : (strOfNums x)[j.toNat]'(by rw [strOfNums_size]; exact h) = UInt8.ofNat (x[j.toNat]).toNat := by
      show ((x.map fun n => UInt8.ofNat n.toNat).toArray)[j.toNat]'(by simpa using h) = _
      simp
    rw [e, UInt8.toNat_ofNat']
    omega
  · rw [dif_neg (by rw [strOfNums_size]; exact h), List.getD_eq_getElem?_getD, List.getElem?_eq_none (by omega)]
    rfl
theorem alike_l0 {s1 s2 : ByteArray} (hs : s1.size = s2.size) (h : ∀ j, attr_large.f (bt s1 j) = attr_large.f (bt s2 j)) (b : ByteArray) (n : Int) : ∀ k p, attr_alike.l0 k b s1 n p = attr_alike.l0 k b s2 n p
  | 0, p => rfl
  | k + 1, p => by simp only [attr_alike.l0, hs, h, alike_l0 hs h b n k]
theorem alike_f {s1 s2 : ByteArray} (hs : s1.size = s2.size) (h : ∀ j, attr_large.f (bt s1 j) = attr_large.f (bt s2 j)) (b : ByteArray) (k : Nat) : attr_alike.f k b s1 = attr_alike.f k b s2 := by
  simp only [attr_alike.f, hs, alike_l0 hs h]
theorem by_l0 {s1 s2 : ByteArray} (hs : s1.size = s2.size) (h : ∀ j, attr_large.f (bt s1 j) = attr_large.f (bt s2 j)) (l : List S27) (n : Int) : ∀ k p, attr_ByName.l0 k s1 l n p = attr_ByName.l0 k s2 l n p
  | 0, p => rfl
  | k + 1, p => by simp only [attr_ByName.l0, alike_f hs h, by_l0 hs h l n k]
theorem by_f {s1 s2 : ByteArray} (hs : s1.size = s2.size) (h : ∀ j, attr_large.f (bt s1 j) = attr_large.f (bt s2 j)) (k : Nat) : attr_ByName.f k s1 = attr_ByName.f k s2 := by
  simp only [attr_ByName.f, by_l0 hs h]
/-- What the loop holds. -/
def Sim (x : List Int) (s : ByteArray) : Prop := x.length = s.size ∧ (∀ v ∈ x, 0 ≤ v ∧ v ≤ 255) ∧ ∀ j, attr_large.f (rd x j) = attr_large.f (bt s j)
theorem sim_by {x : List Int} {s : ByteArray} (h : Sim x s) (k : Nat) : attr_ByName.f k (strOfNums x) = attr_ByName.f k s :=
  by_f (by rw [strOfNums_size, h.1]) (fun j => by rw [bt_strOfNums x h.2.1, h.2.2]) k
theorem large_put : ∀ n ∈ List.range 26, attr_large.f (((65 + n : Nat) : Int) + 32) = attr_large.f ((65 + n : Nat) : Int) := by decide +kernel
theorem sim_put {x : List Int} {s : ByteArray} (h : Sim x s) (p : Nat) (hp : p < x.length) (h1 : rd x p ≥ 65) (h2 : rd x p ≤ 90) : Sim (x.set (p : Int).toNat ((rd x p + 32) % 256)) s := by
  have e : (rd x p + 32) % 256 = rd x p + 32 := by omega
  rw [e, Int.toNat_natCast]
  refine ⟨by rw [List.length_set, h.1], fun v hv => ?_, fun j => ?_⟩
  · rcases List.mem_or_eq_of_mem_set hv with hv | rfl
    · exact h.2.1 v hv
    · omega
  · rw [← h.2.2 j]
    by_cases q : p = j.toNat
    · have e1 : rd (x.set p (rd x p + 32)) j = rd x p + 32 := by
        show (x.set p (rd x p + 32)).getD j.toNat 0 = _
        rw [List.getD_eq_getElem?_getD, List.getElem?_set, if_pos q, if_pos hp]
        rfl
      have e2 : rd x j = rd x p := by
        show x.getD j.toNat 0 = x.getD (p : Int).toNat 0
        rw [← q, Int.toNat_natCast]
      rw [e1, e2]
      have := large_put (rd x p - 65).toNat (by simp; omega)
      have e3 : ((65 + (rd x p - 65).toNat : Nat) : Int) = rd x p := by omega
      rwa [e3] at this
    · have e1 : rd (x.set p (rd x p + 32)) j = rd x j := by
        show (x.set p (rd x p + 32)).getD j.toNat 0 = x.getD j.toNat 0
        rw [List.getD_eq_getElem?_getD, List.getElem?_set, if_neg q, ← List.getD_eq_getElem?_getD]
      rw [e1]
/-- What stands behind the loop. -/
def rest (k : Nat) (x5 : List S27) (x6 : Int) (x8 : ByteArray) (f0 : List Int) (f1 : ByteArray) (f2 : Int) (f3 : List Int) : Option Bool :=
  (attr_Find.f k f0).bind fun bt273 => ((attr_ByName.f k x8).bind fun bt283 => (if f1.size + 1 ≤ 9223372036854775807 then ((attr_ByName.f k (f1 ++ (⟨#[45]⟩ : ByteArray))).bind fun bt293 => (sobriquetlaw22_AttrNames.l1 k x5 x6 bt273.2.2.2.2 bt283.2.2.2.2 bt293.2.2.2.2 0 f0 f1 f2 f3 bt273.1 bt273.2.1 bt273.2.2.1 bt273.2.2.2.1 bt283.1 bt283.2.1 bt283.2.2.1 bt283.2.2.2.1)) else (none)))
theorem loop (x1 : Int) (x5 : List S27) (x6 : Int) (f0 : List Int) (f1 : ByteArray) (f2 : Int) (f3 : List Int) (s : ByteArray) (hs : s.size ≤ 1000) : ∀ (d k p : Nat) (x : List Int), p + d = x.length → d < k → Sim x s →
    sobriquetlaw22_AttrNames.l0 k x1 x5 x6 x (p : Int) f0 f1 f2 f3 = rest (k - d - 1) x5 x6 s f0 f1 f2 f3 := by
  intro d
  induction d with
  | zero =>
    intro k p x hp hk hx
    obtain ⟨k, rfl⟩ : ∃ m, k = m + 1 := ⟨k - 1, by omega⟩
    rw [sobriquetlaw22_AttrNames.l0, if_neg (by omega), sim_by hx]
    rfl
  | succ d ih =>
    intro k p x hp hk hx
    obtain ⟨k, rfl⟩ : ∃ m, k = m + 1 := ⟨k - 1, by omega⟩
    have hl := hx.1
    have hu := (u64_nn (Int.tmod (p : Int) 16)).1
    have hk2 : k + 1 - (d + 1) - 1 = k - d - 1 := by omega
    have i1 := ih k (p + 1) x (by omega) (by omega) hx
    rw [sobriquetlaw22_AttrNames.l0, if_pos (by omega), if_pos (by omega), w64_nat (show p < x.length by omega) (by omega), i1, hk2]
    by_cases c1 : rd x p ≥ 65
    · rw [if_pos c1]
      by_cases c2 : rd x p ≤ 90
      · rw [if_pos c2, if_pos hu]
        split
        · exact ih k (p + 1) _ (by rw [List.length_set]; omega) (by omega) (sim_put hx p (by omega) c1 c2)
        · rfl
      · rw [if_neg c2]
    · rw [if_neg c1]
def nm (i : Nat) : ByteArray := (rd_T27 attrsL (i : Int)).f1
theorem names_small : ∀ i ∈ List.range 13, (nm i).size ≤ 30 := by decide +kernel
theorem all_ok : ∀ i ∈ List.range 13, rest (99 - (nm i).size) attrsL (i : Int) (nm i) (rd_T27 attrsL (i : Int)).f0 (nm i) (rd_T27 attrsL (i : Int)).f2 (rd_T27 attrsL (i : Int)).f3 = some true := by decide +kernel
theorem sim_self (s : ByteArray) : Sim (bytesOf s) s := by
  refine ⟨bytesOf_length s, fun v hv => ?_, fun j => by rw [rd_bytesOf]⟩
  unfold bytesOf at hv
  obtain ⟨b, _, rfl⟩ := List.mem_map.1 hv
  have := b.toNat_lt
  omega
theorem AttrNames : sobriquetlaw22_AttrNames.Pure := by
  intro a0 a1 _ _
  refine ⟨100, ?_⟩
  unfold sobriquetlaw22_AttrNames.f
  rw [attrs_f, Option.bind_some]
  have hn : ((attrsL.length : Nat) : Int) = 13 := rfl
  rw [hn, if_neg (by omega), u64_in 13 (by omega), if_neg (by omega)]
  have ha := u64_nn a0
  obtain ⟨i, hi, hi2⟩ : ∃ i : Nat, wrap64 (Int.tmod (IntKind.u64.wrap a0) 13) = (i : Int) ∧ i < 13 := by
    rw [tmod_nn ha.1, w64 (by omega) (by omega)]
    exact ⟨(IntKind.u64.wrap a0 % 13).toNat, by omega, by omega⟩
  rw [hi, if_pos (by omega), if_pos (by omega)]
  have hm : i ∈ List.range 13 := by simp; omega
  have hs := names_small i hm
  have hok := all_ok i hm
  unfold nm at hs hok
  rw [if_pos (by omega)]
  have := loop a1 attrsL (i : Int) (rd_T27 attrsL (i : Int)).f0 (rd_T27 attrsL (i : Int)).f1 (rd_T27 attrsL (i : Int)).f2 (rd_T27 attrsL (i : Int)).f3 (rd_T27 attrsL (i : Int)).f1 (by omega) (rd_T27 attrsL (i : Int)).f1.size 100 0 (bytesOf (rd_T27 attrsL (i : Int)).f1) (by rw [bytesOf_length]; omega) (by omega) (sim_self _)
  rw [show ((0 : Nat) : Int) = 0 from rfl] at this
  rw [this, show 100 - (rd_T27 attrsL (i : Int)).f1.size - 1 = 99 - (rd_T27 attrsL (i : Int)).f1.size by omega]
  exact hok

end Go.Proofs.Yteclbjjdhckgoaa.Pure
