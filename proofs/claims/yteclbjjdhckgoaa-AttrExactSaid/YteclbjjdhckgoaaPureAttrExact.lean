/- The pure side of AttrExact: what the program's own tables answer of an Oid or a name is what the reference answers. No condition. -/
import Derived.Test.YteclbjjdhckgoaaTm
namespace Go.Proofs.Yteclbjjdhckgoaa.Pure
open Go.RowKit Go.Proofs Go.Proofs.Yteclbjjdhckgoaa Go.Proofs.Yteclbjjdhckgoaa.LAttrExact Go.Proofs.YteclbjjdhckgoaaW.PrintWords Go.Proofs.YteclbjjdhckgoaaW.PrintLast
open Go.Proofs.Yteclbjjdhckgoaa.Tb (attrsL attrs_f eFindO eNameO eFind eName eRule eKinds alikeE lgI w64_nat rd_nat Ints_f attrs_short alike_iff)
set_option linter.unusedVariables false
set_option linter.unusedSimpArgs false
set_option maxHeartbeats 1000000
theorem Equal_l0 (a b : List Int) (hl : a.length = b.length) (hm : a.length ≤ 4611686018427387904) : ∀ (d k i : Nat), i + d = a.length → d < k → slices_Equal_int_int.l0 k a b (a.length : Int) (i : Int) = some (decide (a.drop i = b.drop i)) := by
  intro d
  induction d with
  | zero =>
    intro k i hi hk
    obtain ⟨k, rfl⟩ : ∃ m, k = m + 1 := ⟨k - 1, by omega⟩
    simp only [slices_Equal_int_int.l0]
    rw [if_neg (by omega), List.drop_eq_nil_of_le (by omega), List.drop_eq_nil_of_le (by omega)]
    simp
  | succ d ih =>
    intro k i hi hk
    obtain ⟨k, rfl⟩ : ∃ m, k = m + 1 := ⟨k - 1, by omega⟩
    have ha : i < a.length := by omega
    have hb : i < b.length := by omega
    simp only [slices_Equal_int_int.l0]
    rw [if_pos (by omega), if_pos (by omega), if_pos (by omega), if_pos (by omega), rd_nat a i ha, rd_nat b i hb, w64_nat ha hm, ih k (i + 1) (by omega) (by omega), List.drop_eq_getElem_cons ha, List.drop_eq_getElem_cons hb]
    by_cases h : a[i] = b[i]
    · simp only [h, if_true, List.cons.injEq, true_and]
    · simp only [h, if_false, List.cons.injEq, false_and, decide_false]
theorem Equal_f (a b : List Int) (k : Nat) (hm : a.length ≤ 4611686018427387904) (hk : a.length < k) : slices_Equal_int_int.f k a b = some (decide (a = b)) := by
  unfold slices_Equal_int_int.f
  by_cases hl : a.length = b.length
  · rw [if_pos (by omega)]
    have := Equal_l0 a b hl hm a.length k 0 (by omega) hk
    simpa using this
  · rw [if_neg (by omega)]
    have : a ≠ b := fun h => hl (by rw [h])
    simp [this]
/-- What Find and ByName hand back of what was found. -/
def told (o : Option S27) : List Int × ByteArray × Int × List Int × Bool := ((o.getD z27).f0, (o.getD z27).f1, (o.getD z27).f2, (o.getD z27).f3, o.isSome)
theorem rd27_nat (xs : List S27) (i : Nat) (h : i < xs.length) : rd_T27 xs (i : Int) = xs[i] := by simp [rd_T27, List.getD_eq_getElem?_getD, List.getElem?_eq_getElem h]
theorem Clone_f (l : List Int) (h : l.length ≤ 1000) : slices_Clone_int_int.f l = some l := by
  unfold slices_Clone_int_int.f
  rw [if_pos (by omega)]
theorem kinds_short : ∀ x ∈ attrsL, x.f3.length ≤ 1000 := by decide
theorem Find_l0 (l0 : List Int) (L : List S27) (hL : ∀ x ∈ L, x.f0.length ≤ 1000 ∧ x.f3.length ≤ 1000) (hn : L.length ≤ 1000) : ∀ (d k i : Nat), i + d = L.length → d + 1001 < k → attr_Find.l0 k l0 L (L.length : Int) (i : Int) = some (told ((L.drop i).find? (fun x => decide (x.f0 = l0)))) := by
  intro d
  induction d with
  | zero =>
    intro k i hi hk
    obtain ⟨k, rfl⟩ : ∃ m, k = m + 1 := ⟨k - 1, by omega⟩
    simp only [attr_Find.l0]
    rw [if_neg (by omega), List.drop_eq_nil_of_le (by omega)]
    rfl
  | succ d ih =>
    intro k i hi hk
    obtain ⟨k, rfl⟩ : ∃ m, k = m + 1 := ⟨k - 1, by omega⟩
    have ha : i < L.length := by omega
    have hx := hL L[i] (List.getElem_mem _)
    simp only [attr_Find.l0]
    rw [if_pos (by omega), if_pos (by omega), if_pos (by omega), rd27_nat L i ha, Equal_f _ _ k (by omega) (by omega), Option.bind_some, w64_nat ha (by omega), ih k (i + 1) (by omega) (by omega), Clone_f _ hx.2, Option.bind_some, List.drop_eq_getElem_cons ha]
    by_cases h : L[i].f0 = l0
    · rw [decide_eq_true h, if_pos rfl, List.find?_cons_of_pos (by rw [decide_eq_true h])]
      rfl
    · rw [decide_eq_false h, if_neg Bool.false_ne_true, List.find?_cons_of_neg (by rw [decide_eq_false h]; exact Bool.false_ne_true)]
theorem attrs_fit : ∀ x ∈ attrsL, x.f0.length ≤ 1000 ∧ x.f3.length ≤ 1000 := fun x hx => ⟨attrs_short x hx, kinds_short x hx⟩
theorem Find_f (l0 : List Int) : attr_Find.f 2000 l0 = some (told (eFindO l0)) := by
  unfold attr_Find.f
  rw [attrs_f, Option.bind_some]
  have hn := Tb.attrs_len
  have := Find_l0 l0 attrsL attrs_fit (by omega) 13 2000 0 (by omega) (by omega)
  exact this
theorem large_f (c : Int) : attr_large.f c = some (lgI c) := by
  unfold attr_large.f lgI
  by_cases h1 : c ≥ 97
  · rw [if_pos h1]
    by_cases h2 : c ≤ 122
    · rw [if_pos h2, if_pos ⟨h1, h2⟩]; congr 1; omega
    · rw [if_neg h2, if_neg (fun h => h2 h.2)]
  · rw [if_neg h1, if_neg (fun h => h1 h.1)]
theorem alike_l0 (a b : ByteArray) (hl : a.size = b.size) (hm : a.size ≤ 4611686018427387904) : ∀ (d k i : Nat), i + d = a.size → d < k → ∃ r, attr_alike.l0 k a b (a.size : Int) (i : Int) = some r ∧ (r = true ↔ ∀ y : Nat, i ≤ y → y < a.size → lgI (bt a y) = lgI (bt b y)) := by
  intro d
  induction d with
  | zero =>
    intro k i hi hk
    obtain ⟨k, rfl⟩ : ∃ m, k = m + 1 := ⟨k - 1, by omega⟩
    simp only [attr_alike.l0]
    rw [if_neg (by omega)]
    exact ⟨true, rfl, fun _ y h1 h2 => by omega, fun _ => rfl⟩
  | succ d ih =>
    intro k i hi hk
    obtain ⟨k, rfl⟩ : ∃ m, k = m + 1 := ⟨k - 1, by omega⟩
    have ha : i < a.size := by omega
    obtain ⟨r, e, hr⟩ := ih k (i + 1) (by omega) (by omega)
    simp only [attr_alike.l0]
    rw [if_pos (by omega), if_pos (by omega), if_pos (by omega), large_f, Option.bind_some, if_pos (by omega), large_f, Option.bind_some, w64_nat ha hm, e]
    by_cases h : lgI (bt a (i : Int)) = lgI (bt b (i : Int))
    · rw [if_pos h]
      refine ⟨r, rfl, fun hh y h1 h2 => ?_, fun hh => hr.mpr (fun y h1 h2 => hh y (by omega) h2)⟩
      rcases Nat.lt_or_eq_of_le h1 with h3 | rfl
      · exact hr.mp hh y h3 h2
      · exact h
    · rw [if_neg h]
      exact ⟨false, rfl, fun hh => (by cases hh), fun hh => absurd (hh i (Nat.le_refl _) ha) h⟩
theorem alike_f (a b : ByteArray) (k : Nat) (hm : a.size ≤ 4611686018427387904) (hk : a.size < k) : attr_alike.f k a b = some (alikeE a b) := by
  unfold attr_alike.f
  by_cases hl : a.size = b.size
  · rw [if_pos (by omega)]
    obtain ⟨r, e, hr⟩ := alike_l0 a b hl hm a.size k 0 (by omega) hk
    rw [show ((0 : Nat) : Int) = 0 from rfl] at e
    rw [e]
    congr 1
    rw [Bool.eq_iff_iff, hr, alike_iff]
    exact ⟨fun h => ⟨hl, fun y hy => h y (Nat.zero_le _) hy⟩, fun h y _ hy => h.2 y hy⟩
  · rw [if_neg (by omega)]
    congr 1
    cases he : alikeE a b with
    | false => rfl
    | true => exact absurd ((alike_iff a b).mp he).1 hl
theorem ByName_l0 (s : ByteArray) (L : List S27) (hL : ∀ x ∈ L, x.f1.size ≤ 1000 ∧ x.f3.length ≤ 1000) (hn : L.length ≤ 1000) : ∀ (d k i : Nat), i + d = L.length → d + 1001 < k → attr_ByName.l0 k s L (L.length : Int) (i : Int) = some (told ((L.drop i).find? (fun x => alikeE x.f1 s))) := by
  intro d
  induction d with
  | zero =>
    intro k i hi hk
    obtain ⟨k, rfl⟩ : ∃ m, k = m + 1 := ⟨k - 1, by omega⟩
    simp only [attr_ByName.l0]
    rw [if_neg (by omega), List.drop_eq_nil_of_le (by omega)]
    rfl
  | succ d ih =>
    intro k i hi hk
    obtain ⟨k, rfl⟩ : ∃ m, k = m + 1 := ⟨k - 1, by omega⟩
    have ha : i < L.length := by omega
    have hx := hL L[i] (List.getElem_mem _)
    simp only [attr_ByName.l0]
    rw [if_pos (by omega), if_pos (by omega), if_pos (by omega), rd27_nat L i ha, alike_f _ _ k (by omega) (by omega), Option.bind_some, w64_nat ha (by omega), ih k (i + 1) (by omega) (by omega), Clone_f _ hx.2, Option.bind_some, List.drop_eq_getElem_cons ha]
    cases h : alikeE L[i].f1 s with
    | true =>
      rw [if_pos rfl, List.find?_cons_of_pos (by rw [h])]
      rfl
    | false => rw [if_neg Bool.false_ne_true, List.find?_cons_of_neg (by rw [h]; exact Bool.false_ne_true)]
theorem names_fit : ∀ x ∈ attrsL, x.f1.size ≤ 1000 ∧ x.f3.length ≤ 1000 := fun x hx => ⟨Nat.le_trans (Tb.names_short x hx) (by decide), kinds_short x hx⟩
theorem ByName_f (s : ByteArray) : attr_ByName.f 2000 s = some (told (eNameO s)) := by
  unfold attr_ByName.f
  rw [attrs_f, Option.bind_some]
  have hn := Tb.attrs_len
  have := ByName_l0 s attrsL names_fit (by omega) 13 2000 0 (by omega) (by omega)
  exact this
theorem Rule_f (l0 : List Int) : attr_Rule.f 2000 l0 = some (eRule l0) := by
  unfold attr_Rule.f eRule
  rw [Find_f, Option.bind_some]
  cases eFindO l0 with
  | none => rfl
  | some x => rfl
theorem Kinds_f (l0 : List Int) : attr_Kinds.f 2000 l0 = some (eKinds l0) := by
  unfold attr_Kinds.f eKinds
  rw [Find_f, Option.bind_some]
  cases eFindO l0 with
  | none => rfl
  | some x => rfl
theorem got_fit (o : Option S27) (h : ∀ x, o = some x → x ∈ attrsL) : (o.getD z27).f0.length ≤ 1000 ∧ (o.getD z27).f3.length ≤ 1000 := by
  cases o with
  | none => exact ⟨Nat.zero_le _, Nat.zero_le _⟩
  | some x => exact attrs_fit x (h x rfl)
theorem find_fit (l0 : List Int) : ((eFindO l0).getD z27).f0.length ≤ 1000 ∧ ((eFindO l0).getD z27).f3.length ≤ 1000 := got_fit _ (fun x h => List.mem_of_find?_eq_some h)
theorem name_fit (s : ByteArray) : ((eNameO s).getD z27).f0.length ≤ 1000 ∧ ((eNameO s).getD z27).f3.length ≤ 1000 := got_fit _ (fun x h => List.mem_of_find?_eq_some h)
theorem eKinds_fit (l0 : List Int) : (eKinds l0).length ≤ 1000 := by
  unfold eKinds
  cases h : eFindO l0 with
  | none => exact (by decide : 1 ≤ 1000)
  | some x => exact kinds_short x (List.mem_of_find?_eq_some h)
theorem same_Attr (x : S27) (h0 : x.f0.length ≤ 1000) (h3 : x.f3.length ≤ 1000) : sobriquetkeep_Attr.f 2000 x.f0 x.f1 x.f2 x.f3 x.f0 x.f1 x.f2 x.f3 = some true := by
  unfold sobriquetkeep_Attr.f
  rw [Ints_f _ _ 2000 (by omega) (by omega), Option.bind_some, decide_eq_true rfl, if_pos rfl, if_pos rfl, if_pos rfl, Ints_f _ _ 2000 (by omega) (by omega), decide_eq_true rfl]
  rfl
theorem Over_l0 : ∀ (d k i : Nat) (x : List Int), i + d = x.length → d < k → x.length ≤ 1000 → ∃ y, sobriquetkeep_Over.l0 k x (i : Int) = some y := by
  intro d
  induction d with
  | zero =>
    intro k i x hi hk hm
    obtain ⟨k, rfl⟩ : ∃ m, k = m + 1 := ⟨k - 1, by omega⟩
    simp only [sobriquetkeep_Over.l0]
    rw [if_neg (by omega)]
    exact ⟨_, rfl⟩
  | succ d ih =>
    intro k i x hi hk hm
    obtain ⟨k, rfl⟩ : ∃ m, k = m + 1 := ⟨k - 1, by omega⟩
    simp only [sobriquetkeep_Over.l0]
    rw [if_pos (by omega), if_pos (by omega), w64_nat (show i < x.length by omega) (by omega)]
    exact ih k (i + 1) _ (by rw [List.length_set]; omega) (by omega) (by rw [List.length_set]; exact hm)
theorem Over_f (x : List Int) (h : x.length ≤ 1000) : ∃ y, sobriquetkeep_Over.f 2000 x = some y := Over_l0 x.length 2000 0 x (by omega) (by omega) h
theorem wakes_f : sobriquetlaw22_wakes.f 2000 = some true := by
  unfold sobriquetlaw22_wakes.f
  rw [Find_f, ByName_f, ByName_f, Rule_f, Kinds_f]
  simp only [Option.bind_some]
  rw [Ints_f _ _ 2000 (Nat.le_trans (eKinds_fit _) (by decide)) (Nat.lt_of_le_of_lt (eKinds_fit _) (by decide))]
  decide +kernel
theorem AttrExact : sobriquetlaw22_AttrExact.Pure := by
  intro l0 a1
  refine ⟨2000, ?_⟩
  unfold sobriquetlaw22_AttrExact.f
  by_cases c1 : (l0.length : Int) > 60
  · rw [if_pos c1]
  rw [if_neg c1]
  by_cases c2 : (a1.size : Int) > 100
  · rw [if_pos c2]
  rw [if_neg c2, Find_f, ByName_f, Kinds_f, Rule_f]
  simp only [Option.bind_some, sobriquetref21_Engine_Find.f, sobriquetref21_Engine_ByName.f, sobriquetref21_Engine_Rule.f, sobriquetref21_Engine_Kinds.f]
  have hF := find_fit l0
  have hN := name_fit a1
  have hK := eKinds_fit l0
  obtain ⟨y1, e1⟩ := Over_f _ hF.1
  obtain ⟨y2, e2⟩ := Over_f _ hF.2
  obtain ⟨y3, e3⟩ := Over_f _ hK
  have s1 := same_Attr ((eFindO l0).getD z27) hF.1 hF.2
  have s2 := same_Attr ((eNameO a1).getD z27) hN.1 hN.2
  have t1 : (told (eFindO l0)).2.2.2.2 = eFind l0 := rfl
  have t2 : (told (eNameO a1)).2.2.2.2 = eName a1 := rfl
  rw [t1, t2]
  rw [if_neg (by simp), if_neg (by simp)]
  have u1 : sobriquetkeep_Attr.f 2000 (told (eFindO l0)).1 (told (eFindO l0)).2.1 (told (eFindO l0)).2.2.1 (told (eFindO l0)).2.2.2.1 ((eFindO l0).getD z27).f0 ((eFindO l0).getD z27).f1 ((eFindO l0).getD z27).f2 ((eFindO l0).getD z27).f3 = some true := s1
  have u2 : sobriquetkeep_Attr.f 2000 (told (eNameO a1)).1 (told (eNameO a1)).2.1 (told (eNameO a1)).2.2.1 (told (eNameO a1)).2.2.2.1 ((eNameO a1).getD z27).f0 ((eNameO a1).getD z27).f1 ((eNameO a1).getD z27).f2 ((eNameO a1).getD z27).f3 = some true := s2
  have o1 : sobriquetkeep_Over.f 2000 (told (eFindO l0)).1 = some y1 := e1
  have o2 : sobriquetkeep_Over.f 2000 (told (eFindO l0)).2.2.2.1 = some y2 := e2
  rw [u1, u2, Option.bind_some, if_pos rfl, Option.bind_some, if_pos rfl, if_pos trivial, Ints_f _ _ 2000 (by omega) (by omega), Option.bind_some, decide_eq_true rfl, if_pos rfl, o1, o2, e3, Option.bind_some, Option.bind_some, Option.bind_some, Option.bind_some, if_pos rfl, wakes_f, Option.bind_some]
end Go.Proofs.Yteclbjjdhckgoaa.Pure
