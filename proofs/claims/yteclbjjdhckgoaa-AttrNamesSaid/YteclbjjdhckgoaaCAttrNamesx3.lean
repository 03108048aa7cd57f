-- Written by a program of this session over the translation; checked by Lean alone.
import Derived.Test.YteclbjjdhckgoaaCAttrNamesx0
import Derived.Test.YteclbjjdhckgoaaCAttrNamesx1
import Derived.Test.YteclbjjdhckgoaaCAttrNamesx2
import Derived.Test.YteclbjjdhckgoaaKB
namespace Go.Proofs.Yteclbjjdhckgoaa.CAttrNames
open Go.Proofs.Yteclbjjdhckgoaa Go.RowKit Go.Proofs.YteclbjjdhckgoaaW.PrintWords Go.Proofs.YteclbjjdhckgoaaW.PrintLast Go.Proofs.YteclbjjdhckgoaaW.PrintMore
attribute [local go_sem] max2_int min2_int max_two min_two max_three min_three max_four min_four   -- for this text's walks alone
set_option linter.unusedVariables false
set_option linter.unusedSimpArgs false
set_option linter.unnecessarySimpa false

/-! ### sobriquetlaw22_AttrNames: function 3 -/
mutual
def sobriquetlaw22_AttrNames.l0 : Nat → Int → List (S27) → Int → List Int → Int → List Int → ByteArray → Int → List Int → Option (Bool)
  | 0, _, _, _, _, _, _, _, _, _ => none
  | k + 1, x1, x5, x6, x8, x9, x266000, x266001, x266002, x266003 => if x9 < (x8.length : Int) then (if 0 ≤ x9 then (if (rd x8 x9) ≥ 65 then (if (rd x8 x9) ≤ 90 then (if 0 ≤ (IntKind.u64.wrap (Int.tmod x9 16)) then (if (Go.bits .and .u64 (shr .u64 (IntKind.u64.wrap (x1)) (IntKind.u64.wrap (Int.tmod x9 16))) 1) = 1 then (sobriquetlaw22_AttrNames.l0 k x1 x5 x6 (x8.set (x9 : Int).toNat (((rd x8 x9) + 32) % 256)) (wrap64 (x9 + 1)) x266000 x266001 x266002 x266003) else (sobriquetlaw22_AttrNames.l0 k x1 x5 x6 x8 (wrap64 (x9 + 1)) x266000 x266001 x266002 x266003)) else (none)) else (sobriquetlaw22_AttrNames.l0 k x1 x5 x6 x8 (wrap64 (x9 + 1)) x266000 x266001 x266002 x266003)) else (sobriquetlaw22_AttrNames.l0 k x1 x5 x6 x8 (wrap64 (x9 + 1)) x266000 x266001 x266002 x266003)) else (none)) else ((attr_Find.f k x266000).bind fun bt273 => ((attr_ByName.f k (strOfNums x8)).bind fun bt283 => (if x266001.size + 1 ≤ 9223372036854775807 then ((attr_ByName.f k (x266001 ++ (⟨#[45]⟩ : ByteArray))).bind fun bt293 => (sobriquetlaw22_AttrNames.l1 k x5 x6 bt273.2.2.2.2 bt283.2.2.2.2 bt293.2.2.2.2 0 x266000 x266001 x266002 x266003 bt273.1 bt273.2.1 bt273.2.2.1 bt273.2.2.2.1 bt283.1 bt283.2.1 bt283.2.2.1 bt283.2.2.2.1)) else (none))))
def sobriquetlaw22_AttrNames.l1 : Nat → List (S27) → Int → Bool → Bool → Bool → Int → List Int → ByteArray → Int → List Int → List Int → ByteArray → Int → List Int → List Int → ByteArray → Int → List Int → Option (Bool)
  | 0, _, _, _, _, _, _, _, _, _, _, _, _, _, _, _, _, _, _ => none
  | k + 1, x5, x6, x11, x13, x15, x16, x266000, x266001, x266002, x266003, x283000, x283001, x283002, x283003, x293000, x293001, x293002, x293003 => if x16 < (x5.length : Int) then (if x16 = x6 then (sobriquetlaw22_AttrNames.l1 k x5 x6 x11 x13 x15 (wrap64 (x16 + 1)) x266000 x266001 x266002 x266003 x283000 x283001 x283002 x283003 x293000 x293001 x293002 x293003) else (if 0 ≤ x16 then (if ((rd_T27 x5 x16).f1).toList = x266001.toList then (some false) else ((sobriquetkeep_Ints.f k ((rd_T27 x5 x16).f0) x266000).bind fun t305 => (if t305 = true then (some false) else (sobriquetlaw22_AttrNames.l1 k x5 x6 x11 x13 x15 (wrap64 (x16 + 1)) x266000 x266001 x266002 x266003 x283000 x283001 x283002 x283003 x293000 x293001 x293002 x293003)))) else (none))) else (if x11 = true then (if x13 = true then (if x15 = true then (some false) else ((sobriquetkeep_Attr.f k x283000 x283001 x283002 x283003 x266000 x266001 x266002 x266003).bind fun t306 => (if t306 = true then ((sobriquetkeep_Attr.f k x293000 x293001 x293002 x293003 x266000 x266001 x266002 x266003).bind fun t307 => (if t307 = true then ((attr_Rule.f k x266000).bind fun t308 => (if t308 = x266002 then ((attr_Kinds.f k x266000).bind fun t309 => ((sobriquetkeep_Ints.f k t309 x266003).bind fun t312 => (if t312 = true then ((sobriquetlaw22_wakes.f k).bind fun t313 => (some t313)) else (some false)))) else (some false))) else (some false))) else (some false)))) else (some false)) else (some false))
end
def sobriquetlaw22_AttrNames.f (k : Nat) (a0 : Int) (a1 : Int) : Option (Bool) := (api_Attrs.f).bind fun t261 => (if (t261.length : Int) = 0 then (some false) else (if (IntKind.u64.wrap ((t261.length : Int))) = 0 then (none) else (if 0 ≤ (wrap64 (Int.tmod (IntKind.u64.wrap (a0)) (IntKind.u64.wrap ((t261.length : Int))))) then (if (wrap64 (Int.tmod (IntKind.u64.wrap (a0)) (IntKind.u64.wrap ((t261.length : Int))))) < (t261.length : Int) then (if ((rd_T27 t261 (wrap64 (Int.tmod (IntKind.u64.wrap (a0)) (IntKind.u64.wrap ((t261.length : Int)))))).f1).size < 140737488355328 then (sobriquetlaw22_AttrNames.l0 k a1 t261 (wrap64 (Int.tmod (IntKind.u64.wrap (a0)) (IntKind.u64.wrap ((t261.length : Int))))) (bytesOf ((rd_T27 t261 (wrap64 (Int.tmod (IntKind.u64.wrap (a0)) (IntKind.u64.wrap ((t261.length : Int)))))).f1)) 0 ((rd_T27 t261 (wrap64 (Int.tmod (IntKind.u64.wrap (a0)) (IntKind.u64.wrap ((t261.length : Int)))))).f0) ((rd_T27 t261 (wrap64 (Int.tmod (IntKind.u64.wrap (a0)) (IntKind.u64.wrap ((t261.length : Int)))))).f1) ((rd_T27 t261 (wrap64 (Int.tmod (IntKind.u64.wrap (a0)) (IntKind.u64.wrap ((t261.length : Int)))))).f2) ((rd_T27 t261 (wrap64 (Int.tmod (IntKind.u64.wrap (a0)) (IntKind.u64.wrap ((t261.length : Int)))))).f3)) else (none)) else (none)) else (none))))
theorem sobriquetlaw22_AttrNames.mono_l : ∀ k, (∀ y0 y1 y2 y3 y4 y5 y6 y7 y8, LeO (sobriquetlaw22_AttrNames.l0 k y0 y1 y2 y3 y4 y5 y6 y7 y8) (sobriquetlaw22_AttrNames.l0 (k + 1) y0 y1 y2 y3 y4 y5 y6 y7 y8)) ∧ (∀ y0 y1 y2 y3 y4 y5 y6 y7 y8 y9 y10 y11 y12 y13 y14 y15 y16 y17, LeO (sobriquetlaw22_AttrNames.l1 k y0 y1 y2 y3 y4 y5 y6 y7 y8 y9 y10 y11 y12 y13 y14 y15 y16 y17) (sobriquetlaw22_AttrNames.l1 (k + 1) y0 y1 y2 y3 y4 y5 y6 y7 y8 y9 y10 y11 y12 y13 y14 y15 y16 y17))
  | 0 => ⟨fun _ _ _ _ _ _ _ _ _ r h => by simp [sobriquetlaw22_AttrNames.l0] at h, fun _ _ _ _ _ _ _ _ _ _ _ _ _ _ _ _ _ _ r h => by simp [sobriquetlaw22_AttrNames.l1] at h⟩
  | k + 1 => by
    obtain ⟨ih0, ih1⟩ := sobriquetlaw22_AttrNames.mono_l k
    refine ⟨?_, ?_⟩
    · intro y0 y1 y2 y3 y4 y5 y6 y7 y8
      unfold sobriquetlaw22_AttrNames.l0
      repeat' first
      | (with_reducible exact ih0 _ _ _ _ _ _ _ _ _)
      | (with_reducible exact ih1 _ _ _ _ _ _ _ _ _ _ _ _ _ _ _ _ _ _)
      | (with_reducible exact attr_ByName.mono _ _)
      | (with_reducible exact attr_Find.mono _ _)
      | (with_reducible exact attr_Kinds.mono _ _)
      | (with_reducible exact attr_Rule.mono _ _)
      | (with_reducible exact sobriquetkeep_Attr.mono _ _ _ _ _ _ _ _ _)
      | (with_reducible exact sobriquetkeep_Ints.mono _ _ _)
      | (with_reducible exact sobriquetlaw22_wakes.mono _)
      | (with_reducible exact LeO.refl _)
      | (with_reducible exact LeO.none _)
      | (with_reducible refine LeO.ite ?_ ?_)
      | (with_reducible refine LeO.bind ?_ (fun _ => ?_))
      | exact ih0 _ _ _ _ _ _ _ _ _
      | exact ih1 _ _ _ _ _ _ _ _ _ _ _ _ _ _ _ _ _ _
      | exact attr_ByName.mono _ _
      | exact attr_Find.mono _ _
      | exact attr_Kinds.mono _ _
      | exact attr_Rule.mono _ _
      | exact sobriquetkeep_Attr.mono _ _ _ _ _ _ _ _ _
      | exact sobriquetkeep_Ints.mono _ _ _
      | exact sobriquetlaw22_wakes.mono _
      | exact LeO.none _
      | refine LeO.ite ?_ ?_
      | refine LeO.bind ?_ (fun _ => ?_)
    · intro y0 y1 y2 y3 y4 y5 y6 y7 y8 y9 y10 y11 y12 y13 y14 y15 y16 y17
      unfold sobriquetlaw22_AttrNames.l1
      repeat' first
      | (with_reducible exact ih0 _ _ _ _ _ _ _ _ _)
      | (with_reducible exact ih1 _ _ _ _ _ _ _ _ _ _ _ _ _ _ _ _ _ _)
      | (with_reducible exact attr_ByName.mono _ _)
      | (with_reducible exact attr_Find.mono _ _)
      | (with_reducible exact attr_Kinds.mono _ _)
      | (with_reducible exact attr_Rule.mono _ _)
      | (with_reducible exact sobriquetkeep_Attr.mono _ _ _ _ _ _ _ _ _)
      | (with_reducible exact sobriquetkeep_Ints.mono _ _ _)
      | (with_reducible exact sobriquetlaw22_wakes.mono _)
      | (with_reducible exact LeO.refl _)
      | (with_reducible exact LeO.none _)
      | (with_reducible refine LeO.ite ?_ ?_)
      | (with_reducible refine LeO.bind ?_ (fun _ => ?_))
      | exact ih0 _ _ _ _ _ _ _ _ _
      | exact ih1 _ _ _ _ _ _ _ _ _ _ _ _ _ _ _ _ _ _
      | exact attr_ByName.mono _ _
      | exact attr_Find.mono _ _
      | exact attr_Kinds.mono _ _
      | exact attr_Rule.mono _ _
      | exact sobriquetkeep_Attr.mono _ _ _ _ _ _ _ _ _
      | exact sobriquetkeep_Ints.mono _ _ _
      | exact sobriquetlaw22_wakes.mono _
      | exact LeO.none _
      | refine LeO.ite ?_ ?_
      | refine LeO.bind ?_ (fun _ => ?_)
theorem sobriquetlaw22_AttrNames.mono : ∀ a0 a1 k, LeO (sobriquetlaw22_AttrNames.f k a0 a1) (sobriquetlaw22_AttrNames.f (k + 1) a0 a1) := by
  intro a0 a1 k
  obtain ⟨ih0, ih1⟩ := sobriquetlaw22_AttrNames.mono_l k
  unfold sobriquetlaw22_AttrNames.f
  repeat' first
      | (with_reducible exact ih0 _ _ _ _ _ _ _ _ _)
      | (with_reducible exact ih1 _ _ _ _ _ _ _ _ _ _ _ _ _ _ _ _ _ _)
      | (with_reducible exact attr_ByName.mono _ _)
      | (with_reducible exact attr_Find.mono _ _)
      | (with_reducible exact attr_Kinds.mono _ _)
      | (with_reducible exact attr_Rule.mono _ _)
      | (with_reducible exact sobriquetkeep_Attr.mono _ _ _ _ _ _ _ _ _)
      | (with_reducible exact sobriquetkeep_Ints.mono _ _ _)
      | (with_reducible exact sobriquetlaw22_wakes.mono _)
      | (with_reducible exact LeO.refl _)
      | (with_reducible exact LeO.none _)
      | (with_reducible refine LeO.ite ?_ ?_)
      | (with_reducible refine LeO.bind ?_ (fun _ => ?_))
      | exact ih0 _ _ _ _ _ _ _ _ _
      | exact ih1 _ _ _ _ _ _ _ _ _ _ _ _ _ _ _ _ _ _
      | exact attr_ByName.mono _ _
      | exact attr_Find.mono _ _
      | exact attr_Kinds.mono _ _
      | exact attr_Rule.mono _ _
      | exact sobriquetkeep_Attr.mono _ _ _ _ _ _ _ _ _
      | exact sobriquetkeep_Ints.mono _ _ _
      | exact sobriquetlaw22_wakes.mono _
      | exact LeO.none _
      | refine LeO.ite ?_ ?_
      | refine LeO.bind ?_ (fun _ => ?_)
def sobriquetlaw22_AttrNames.T18 : Bool × List (List Nat × List Nat) := (true, [([], []), ([], []), ([0, 1], [0, 1]), ([2], [2]), ([3], [3]), ([3], [3]), ([4, 5, 3], [3, 4, 5]), ([6, 3], [3, 6]), ([7, 3], [3, 7]), ([3], [3]), ([9, 3], [3, 9]), ([8, 10, 3], [3, 8, 10]), ([11, 3, 3], [3, 11]), ([12], [12]), ([12], [12]), ([13, 14, 12], [12, 13, 14]), ([15, 12], [12, 15]), ([16, 12], [12, 16]), ([12], [12]), ([18, 12], [12, 18]), ([17, 19, 12, 12], [12, 17, 19]), ([12, 20, 3], [3, 12, 20]), ([3, 21], [3, 21])])
def sobriquetlaw22_AttrNames.B18 : List Nat := [0, 0, 3, 7, 15, 15, 63, 127, 255, 15, 527, 2047, 4095, 8191, 8191, 32767, 65535, 131071, 8191, 270335, 1048575, 2097151, 4194303]
theorem sobriquetlaw22_AttrNames.tab18 : rtab .any (opsOf Try.f3 18) = sobriquetlaw22_AttrNames.T18 := by kernel_rfl
theorem sobriquetlaw22_AttrNames.bits18 : waitsOk sobriquetlaw22_AttrNames.T18.2 sobriquetlaw22_AttrNames.B18 = true := by kernel_rfl
def sobriquetlaw22_AttrNames.T20 : Bool × List (List Nat × List Nat) := (true, [([], []), ([0], [0]), ([1], [1]), ([1, 2], [1, 2]), ([3, 1], [3]), ([4], [4]), ([5, 4], [4, 5]), ([4, 6], [4, 6]), ([7, 4], [7]), ([8], [8]), ([8], [8]), ([9, 10, 8, 8], [8, 9, 10]), ([8, 11], [8, 11]), ([12, 11], [12]), ([13], [13]), ([13], [13]), ([14, 15, 13, 13], [13, 14, 15]), ([13, 16], [13, 16]), ([17, 16], [17]), ([18], [18]), ([19, 18], [18, 19]), ([20, 18, 18], [18, 20]), ([18], [18]), ([22, 18], [18, 22]), ([21, 23, 18], [18, 21, 23]), ([18, 24], [18, 24]), ([25, 21], [25]), ([26], [26]), ([27, 26], [26, 27]), ([28, 26, 26], [26, 28]), ([26], [26]), ([30, 26], [26, 30]), ([29, 31, 29, 26], [26, 29, 31]), ([26, 32], [26, 32]), ([33, 32], [33]), ([34, 34], [34]), ([34, 35], [34, 35]), ([36, 35, 0, 1, 2, 3, 4, 5, 6, 7, 8, 9, 10, 11, 12, 13, 14, 15, 16, 17, 18, 19, 20, 21, 22, 23, 24, 25, 26, 27, 28, 29, 30, 31, 32, 33, 34, 35, 36], [36])])
def sobriquetlaw22_AttrNames.B20 : List Nat := [0, 1, 3, 7, 15, 31, 63, 127, 255, 511, 511, 2047, 4095, 8191, 16383, 16383, 65535, 131071, 262143, 524287, 1048575, 2097151, 524287, 4718591, 16777215, 33554431, 67108863, 134217727, 268435455, 536870911, 134217727, 1207959551, 4294967295, 8589934591, 17179869183, 34359738367, 68719476735, 137438953471]
theorem sobriquetlaw22_AttrNames.tab20 : rtab .any (opsOf Try.f3 20) = sobriquetlaw22_AttrNames.T20 := by kernel_rfl
theorem sobriquetlaw22_AttrNames.bits20 : waitsOk sobriquetlaw22_AttrNames.T20.2 sobriquetlaw22_AttrNames.B20 = true := by kernel_rfl
set_option maxHeartbeats 8000000 in
set_option maxRecDepth 100000 in
theorem sobriquetlaw22_AttrNames.calls (k : Nat) (a0 : Int) (a1 : Int) (r : Bool) (w : World) (h : sobriquetlaw22_AttrNames.f k a0 a1 = some r) (hrt0 : r = true) :
    Calls Try.prog 3 #[.int .i64 a0, .int .i64 a1] w fun e w' => e = .returned (.bool r) ∧ Below w.heap.size w w' := by
  have hu27 := Try.underlying27
  have HB := Aside0.mk (Below.refl w.heap.size w)
  have hrt := Aside0.mk hrt0
  clear hrt0
  have H : ((api_Attrs.f).bind fun t261 => (if (t261.length : Int) = 0 then (some false) else (if (IntKind.u64.wrap ((t261.length : Int))) = 0 then (none) else (if 0 ≤ (wrap64 (Int.tmod (IntKind.u64.wrap (a0)) (IntKind.u64.wrap ((t261.length : Int))))) then (if (wrap64 (Int.tmod (IntKind.u64.wrap (a0)) (IntKind.u64.wrap ((t261.length : Int))))) < (t261.length : Int) then (if ((rd_T27 t261 (wrap64 (Int.tmod (IntKind.u64.wrap (a0)) (IntKind.u64.wrap ((t261.length : Int)))))).f1).size < 140737488355328 then (sobriquetlaw22_AttrNames.l0 k a1 t261 (wrap64 (Int.tmod (IntKind.u64.wrap (a0)) (IntKind.u64.wrap ((t261.length : Int))))) (bytesOf ((rd_T27 t261 (wrap64 (Int.tmod (IntKind.u64.wrap (a0)) (IntKind.u64.wrap ((t261.length : Int)))))).f1)) 0 ((rd_T27 t261 (wrap64 (Int.tmod (IntKind.u64.wrap (a0)) (IntKind.u64.wrap ((t261.length : Int)))))).f0) ((rd_T27 t261 (wrap64 (Int.tmod (IntKind.u64.wrap (a0)) (IntKind.u64.wrap ((t261.length : Int)))))).f1) ((rd_T27 t261 (wrap64 (Int.tmod (IntKind.u64.wrap (a0)) (IntKind.u64.wrap ((t261.length : Int)))))).f2) ((rd_T27 t261 (wrap64 (Int.tmod (IntKind.u64.wrap (a0)) (IntKind.u64.wrap ((t261.length : Int)))))).f3)) else (none)) else (none)) else (none))))) = some r := h
  clear h
  replace H := Option.bind_eq_some_iff.mp H
  obtain ⟨t261, A30, H⟩ := H
  replace H : (if (t261.length : Int) = 0 then (some false) else (if (IntKind.u64.wrap ((t261.length : Int))) = 0 then (none) else (if 0 ≤ (wrap64 (Int.tmod (IntKind.u64.wrap (a0)) (IntKind.u64.wrap ((t261.length : Int))))) then (if (wrap64 (Int.tmod (IntKind.u64.wrap (a0)) (IntKind.u64.wrap ((t261.length : Int))))) < (t261.length : Int) then (if ((rd_T27 t261 (wrap64 (Int.tmod (IntKind.u64.wrap (a0)) (IntKind.u64.wrap ((t261.length : Int)))))).f1).size < 140737488355328 then (sobriquetlaw22_AttrNames.l0 k a1 t261 (wrap64 (Int.tmod (IntKind.u64.wrap (a0)) (IntKind.u64.wrap ((t261.length : Int))))) (bytesOf ((rd_T27 t261 (wrap64 (Int.tmod (IntKind.u64.wrap (a0)) (IntKind.u64.wrap ((t261.length : Int)))))).f1)) 0 ((rd_T27 t261 (wrap64 (Int.tmod (IntKind.u64.wrap (a0)) (IntKind.u64.wrap ((t261.length : Int)))))).f0) ((rd_T27 t261 (wrap64 (Int.tmod (IntKind.u64.wrap (a0)) (IntKind.u64.wrap ((t261.length : Int)))))).f1) ((rd_T27 t261 (wrap64 (Int.tmod (IntKind.u64.wrap (a0)) (IntKind.u64.wrap ((t261.length : Int)))))).f2) ((rd_T27 t261 (wrap64 (Int.tmod (IntKind.u64.wrap (a0)) (IntKind.u64.wrap ((t261.length : Int)))))).f3)) else (none)) else (none)) else (none)))) = some r := H
  have A3 := Aside0.mk A30
  clear A30
  by_cases c4 : (t261.length : Int) = 0
  · rw [if_pos c4] at H
    have c4b0 : ((t261.length : Int) == 0) = true := beq_iff_eq.mpr c4
    have c4b1 : ((t261.length : Int) != 0) = false := bne_eq_false_iff_eq.mpr c4
    clear c4
    exact absurd ((Option.some.inj H).trans hrt.out) (by decide)
  · rw [if_neg c4] at H
    have c4b0 : ((t261.length : Int) == 0) = false := beq_eq_false_iff_ne.mpr c4
    have c4b1 : ((t261.length : Int) != 0) = true := bne_iff_ne.mpr c4
    have c4b2 : ¬ (t261 = []) := fun h_ => c4 (by rw [h_]; rfl)
    by_cases c5 : (IntKind.u64.wrap ((t261.length : Int))) = 0
    · rw [if_pos c5] at H
      exact absurd H (by simp)
    · rw [if_neg c5] at H
      have c5b0 : ((IntKind.u64.wrap ((t261.length : Int))) == 0) = false := beq_eq_false_iff_ne.mpr c5
      have c5b1 : ((IntKind.u64.wrap ((t261.length : Int))) != 0) = true := bne_iff_ne.mpr c5
      obtain ⟨ji6, hji6⟩ : ∃ j_ : Int, (wrap64 (Int.tmod (IntKind.u64.wrap (a0)) (IntKind.u64.wrap ((t261.length : Int))))) = j_ := ⟨_, rfl⟩
      replace H : (if 0 ≤ (ji6) then (if (ji6) < (t261.length : Int) then (if ((rd_T27 t261 (ji6)).f1).size < 140737488355328 then (sobriquetlaw22_AttrNames.l0 k a1 t261 ji6 (bytesOf ((rd_T27 t261 (ji6)).f1)) 0 ((rd_T27 t261 (ji6)).f0) ((rd_T27 t261 (ji6)).f1) ((rd_T27 t261 (ji6)).f2) ((rd_T27 t261 (ji6)).f3)) else (none)) else (none)) else (none)) = some r := by first | (rw [hji6] at H; exact H) | (simp only [hji6] at H ⊢; exact H)
      (try rw [hji6] at A3)
      have hji6w : (IntKind.i64.wrap (Int.tmod (IntKind.u64.wrap (a0)) (IntKind.u64.wrap ((t261.length : Int))))) = ji6 := (i64_w _).trans hji6
      by_cases c7 : 0 ≤ (ji6)
      · rw [if_pos c7] at H
        have c7b0 : decide (0 ≤ (ji6)) = true := decide_eq_true c7
        clear c7
        by_cases c8 : (ji6) < (t261.length : Int)
        · rw [if_pos c8] at H
          have c8b0 : decide ((ji6) < (t261.length : Int)) = true := decide_eq_true c8
          clear c8
          by_cases c9 : ((rd_T27 t261 (ji6)).f1).size < 140737488355328
          · rw [if_pos c9] at H
            have c9b0 := eq_true c9
            have c9b1 : decide (((rd_T27 t261 (ji6)).f1).size < 140737488355328) = true := decide_eq_true c9
            clear c9
            obtain ⟨y266, hy266⟩ : ∃ y_ : List Int, y_ = (bytesOf ((rd_T27 t261 (ji6)).f1)) := ⟨_, rfl⟩
            replace H : (sobriquetlaw22_AttrNames.l0 k a1 t261 ji6 y266 0 ((rd_T27 t261 (ji6)).f0) ((rd_T27 t261 (ji6)).f1) ((rd_T27 t261 (ji6)).f2) ((rd_T27 t261 (ji6)).f3)) = some r := by first | (rw [hy266]; with_reducible exact H) | (have H2_ := (Option.bind_some _ _).symm.trans H; rw [hy266]; with_reducible exact H2_) | (have H2_ := (Option.bind_some _ _).symm.trans H; with_reducible exact H2_) | with_reducible exact H | (rw [hy266]; exact H) | exact H
            have Ny266 := Aside0.mk hy266
            clear hy266
            have H' := Aside0.mk H
            clear H
            go_enter Try.func3, Try.ntmps3
            go_wp2_with (first | ((with_reducible refine gate_callee (f := 7) rfl ?_); refine goesL_ (some 17) rfl rfl Try.func7 (by kernel_rfl) rfl #[] rfl (by (try simp only [List.map_toArray, List.map_cons, List.map_nil]); first | done | rfl | (simp only [List.length_drop, List.length_take]; rfl)) ?_; (with_reducible refine (api_Attrs.calls  t261 _ A3.out).mono ?_); rintro e w10 ⟨v262, rfl, ho0, hb⟩; refine ⟨_, rfl, ?_⟩; have n0_ := Aside0.mk (Kd.N_lower (Kd.N_mono (ok' := fun k_ => True) ho0 (fun k_ hk_ => trivial)) (below_size (by repeat (first | (with_reducible first | exact HB.out | apply below_alloc | apply pw_below_drewN | apply below_drew1) | exact HB.out)))); have n1_ := Aside0.mk (below_step (by repeat (first | (with_reducible first | exact HB.out | apply below_alloc | apply pw_below_drewN | apply below_drew1) | exact HB.out)) hb); clear HB; have HO263 := n0_; have HB := n1_; clear n0_ n1_; (try clear hb); (try clear hb2); (try clear hk); (try clear hi); (try clear ho0); obtain ⟨Ao11, co11, eo11⟩ := Kd.N_slice HO263.out; subst eo11; have p264 : 0 ≤ ((ji6) : Int) := of_decide_eq_true (by first | (with_reducible assumption) | assumption); have q264 : (ji6) < (t261.length : Int) := of_decide_eq_true (by first | (with_reducible assumption) | assumption); obtain ⟨ad264, A264_0, c264_0, A264_3, c264_3, e264, hx264_0, hx264_1, hx264_2, hx264_3, hl264_0, hi264_0, hl264_3, hi264_3⟩ := at_T27 (Kd.N_reads' HO263.out).2.2 (ji6) p264 q264; cases e264; obtain ⟨ce264, hce264, hMe264, hcc264⟩ := Kd.N_get HO263.out z27 (ji6) p264 (by first | exact q264 | exact of_decide_eq_true (by first | (with_reducible assumption) | assumption) | (have e_ := (Kd.N_reads' HO263.out).1; omega)); obtain ⟨ua264_0, uc264_0, ua264_3, uc264_3, rfl, ul264_0, ge264_0, ul264_3, ge264_3⟩ := k27_openF hMe264; have hv264_0 := hcc264 0 _ rfl; rw [Nat.add_zero] at hv264_0; replace hv264_0 := Option.some.inj (hv264_0.symm.trans hx264_0); injection hv264_0 with hva_ hvn_ hvc_; rw [hva_] at ge264_0; rw [hvc_] at ul264_0; have HL264_0 := Aside0.mk (show Kd.V (Kd.int .i64) 3 _ w.heap.size _ _ ((rd_T27 t261 (ji6)).f0) from Kd.V_mk ul264_0 ge264_0); clear hva_ hvn_ hvc_ ge264_0 ul264_0; have hv264_3 := hcc264 3 _ rfl; rw [add_field _ _ 3 (by omega)] at hv264_3; replace hv264_3 := Option.some.inj (hv264_3.symm.trans hx264_3); injection hv264_3 with hva_ hvn_ hvc_; rw [hva_] at ge264_3; rw [hvc_] at ul264_3; have HL264_3 := Aside0.mk (show Kd.V (Kd.int .i64) 3 _ w.heap.size _ _ ((rd_T27 t261 (ji6)).f3) from Kd.V_mk ul264_3 ge264_3); clear hva_ hvn_ hvc_ ge264_3 ul264_3; clear hcc264 hce264; have HR264_0 := Aside0.mk hi264_0; have HC264_0 := Aside0.mk hl264_0; clear hi264_0 hl264_0; have HR264_3 := Aside0.mk hi264_3; have HC264_3 := Aside0.mk hl264_3; clear hi264_3 hl264_3; replace p264 := eq_true p264; replace q264 := eq_true q264) | ((with_reducible refine gate_dst (N := 7) rfl ?_); refine box_event ?hg (N := 7) ?hd (cs := #[.slice none 0 0, .string (⟨#[]⟩ : ByteArray), .int .i64 0, .slice none 0 0]) (t := 27) ?hr ?_; (case hd => rfl); (case hg => rfl); (case hr => first | (go_simp; done) | (go_simp; rfl)); intro gb265 hg w12 hbox hb; have n0_ := Aside0.mk (Kd.N_below (Kd.N_elderB (by (with_reducible repeat (first | apply Kd.N_alloc | apply Kd.N_drewN | apply Kd.N_drew)); exact HO263.out) gb265 (Nat.le_of_eq hg.symm)) hb); have n1_ := Aside0.mk (Kd.V_below (Kd.V_elderB (by (with_reducible repeat (first | apply Kd.V_alloc | apply Kd.V_drewN | apply Kd.V_drew)); exact HL264_0.out) gb265 (Nat.le_of_eq hg.symm)) hb); have n2_ := Aside0.mk (Kd.V_below (Kd.V_elderB (by (with_reducible repeat (first | apply Kd.V_alloc | apply Kd.V_drewN | apply Kd.V_drew)); exact HL264_3.out) gb265 (Nat.le_of_eq hg.symm)) hb); have n3_ := Aside0.mk (Kd.C_below (by repeat (first | (with_reducible exact HR264_0.out) | (with_reducible refine Kd.C_alloc ?_ _) | (with_reducible refine Kd.C_drewN ?_ _) | (with_reducible refine Kd.C_drew ?_) | exact HR264_0.out)) hb); have n4_ := Aside0.mk (Kd.C_below (by repeat (first | (with_reducible exact HR264_3.out) | (with_reducible refine Kd.C_alloc ?_ _) | (with_reducible refine Kd.C_drewN ?_ _) | (with_reducible refine Kd.C_drew ?_) | exact HR264_3.out)) hb); have n5_ := Aside0.mk (below_step (by repeat (first | (with_reducible first | exact HB.out | apply below_alloc | apply pw_below_drewN | apply below_drew1) | exact HB.out)) hb); have n6_ := Aside0.mk (hbox); have n7_ := Aside0.mk ((by rw [hg]; exact (below_size (by repeat (first | (with_reducible first | exact HB.out | apply below_alloc | apply pw_below_drewN | apply below_drew1) | exact HB.out))) : w.heap.size ≤ gb265)); have n8_ := Aside0.mk ((by rw [hg]; exact (below_size (by repeat (first | (with_reducible first | exact HB.out | apply below_alloc | apply pw_below_drewN | apply below_drew1) | exact HB.out))) : w.heap.size ≤ gb265)); clear HO263; clear HL264_0; clear HL264_3; clear HR264_0; clear HR264_3; clear HB; have HO263 := n0_; have HL264_0 := n1_; have HL264_3 := n2_; have HR264_0 := n3_; have HR264_3 := n4_; have HB := n5_; have BK265 := n6_; have GW265 := n7_; have GE265 := n8_; clear n0_ n1_ n2_ n3_ n4_ n5_ n6_ n7_ n8_; clear hb hbox hg; have hcz13_0 : w12.cell? ⟨gb265, 0, none⟩ = some (.slice none 0 0) := (blk_cell BK265.out 0).trans rfl; have hcz13_1 : w12.cell? ⟨gb265, 1, none⟩ = some (.string (⟨#[]⟩ : ByteArray)) := (blk_cell BK265.out 1).trans rfl; have hcz13_2 : w12.cell? ⟨gb265, 2, none⟩ = some (.int .i64 0) := (blk_cell BK265.out 2).trans rfl; have hcz13_3 : w12.cell? ⟨gb265, 3, none⟩ = some (.slice none 0 0) := (blk_cell BK265.out 3).trans rfl; have hfz13_0 := blk_frozen BK265.out 0; have hfz13_1 := blk_frozen BK265.out 1; have hfz13_2 := blk_frozen BK265.out 2; have hfz13_3 := blk_frozen BK265.out 3) | ((with_reducible refine gate_dst (N := 34) rfl ?_); refine KB.conv_mk2 rfl _ 9 28 rfl Try.underlying9 Try.underlying28 Try.underlying5 ((rd_T27 t261 (ji6)).f1) rfl (Nat.le_of_lt (of_decide_eq_true (by first | (with_reducible assumption) | assumption))) ?_; intro v267 w14 wz hz ho15 hb hoz hbz; rw [← Ny266.out] at ho15 hoz; have n0_ := Aside0.mk (Kd.N_elder' (by (with_reducible repeat (first | apply Kd.N_alloc | apply Kd.N_drewN | apply Kd.N_drew)); exact (Kd.N_mono (Kd.N_far (p := ⟨gb265, 3, none⟩) (Kd.N_far (p := ⟨gb265, 2, none⟩) (Kd.N_far (p := ⟨gb265, 1, none⟩) (Kd.N_far (p := ⟨gb265, 0, none⟩) (Kd.N_mono HO263.out (fun k_ hk => (⟨hk, hk.2⟩ : _ ∧ k_ ≠ gb265))) (fun _ hk => hk.2) (.slice A264_0 ((rd_T27 t261 (ji6)).f0).length c264_0)) (fun _ hk => hk.2) (.string ((rd_T27 t261 (ji6)).f1))) (fun _ hk => hk.2) (.int .i64 ((rd_T27 t261 (ji6)).f2))) (fun _ hk => hk.2) (.slice A264_3 ((rd_T27 t261 (ji6)).f3).length c264_3)) (fun _ h_ => h_.1))) (KB.R_base ho15) hb); have n1_ := Aside0.mk (Kd.V_elder' (by (with_reducible repeat (first | apply Kd.V_alloc | apply Kd.V_drewN | apply Kd.V_drew)); exact (Kd.V_mono (Kd.V_far (p := ⟨gb265, 3, none⟩) (Kd.V_far (p := ⟨gb265, 2, none⟩) (Kd.V_far (p := ⟨gb265, 1, none⟩) (Kd.V_far (p := ⟨gb265, 0, none⟩) (Kd.V_mono HL264_0.out (fun k_ hk => (⟨hk, hk.2⟩ : _ ∧ k_ ≠ gb265))) (fun _ hk => hk.2) (.slice A264_0 ((rd_T27 t261 (ji6)).f0).length c264_0)) (fun _ hk => hk.2) (.string ((rd_T27 t261 (ji6)).f1))) (fun _ hk => hk.2) (.int .i64 ((rd_T27 t261 (ji6)).f2))) (fun _ hk => hk.2) (.slice A264_3 ((rd_T27 t261 (ji6)).f3).length c264_3)) (fun _ h_ => h_.1))) (KB.R_base ho15) hb); have n2_ := Aside0.mk (Kd.V_elder' (by (with_reducible repeat (first | apply Kd.V_alloc | apply Kd.V_drewN | apply Kd.V_drew)); exact (Kd.V_mono (Kd.V_far (p := ⟨gb265, 3, none⟩) (Kd.V_far (p := ⟨gb265, 2, none⟩) (Kd.V_far (p := ⟨gb265, 1, none⟩) (Kd.V_far (p := ⟨gb265, 0, none⟩) (Kd.V_mono HL264_3.out (fun k_ hk => (⟨hk, hk.2⟩ : _ ∧ k_ ≠ gb265))) (fun _ hk => hk.2) (.slice A264_0 ((rd_T27 t261 (ji6)).f0).length c264_0)) (fun _ hk => hk.2) (.string ((rd_T27 t261 (ji6)).f1))) (fun _ hk => hk.2) (.int .i64 ((rd_T27 t261 (ji6)).f2))) (fun _ hk => hk.2) (.slice A264_3 ((rd_T27 t261 (ji6)).f3).length c264_3)) (fun _ h_ => h_.1))) (KB.R_base ho15) hb); have n3_ := Aside0.mk hoz; have ZZ0 := Aside0.mk (show w.heap.size ≤ wz.heap.size from by rw [hz]; exact below_size (by repeat (first | (with_reducible first | exact HB.out | apply below_alloc | apply pw_below_drewN | apply below_drew1 | refine below_set ?_ GE265.out) | exact HB.out))); have n4_ := Aside0.mk (Kd.C_below ((Kd.V_reads' (by (with_reducible repeat (first | apply Kd.V_alloc | apply Kd.V_drewN | apply Kd.V_drew)); exact (Kd.V_mono (Kd.V_far (p := ⟨gb265, 3, none⟩) (Kd.V_far (p := ⟨gb265, 2, none⟩) (Kd.V_far (p := ⟨gb265, 1, none⟩) (Kd.V_far (p := ⟨gb265, 0, none⟩) (Kd.V_mono HL264_0.out (fun k_ hk => (⟨hk, hk.2⟩ : _ ∧ k_ ≠ gb265))) (fun _ hk => hk.2) (.slice A264_0 ((rd_T27 t261 (ji6)).f0).length c264_0)) (fun _ hk => hk.2) (.string ((rd_T27 t261 (ji6)).f1))) (fun _ hk => hk.2) (.int .i64 ((rd_T27 t261 (ji6)).f2))) (fun _ hk => hk.2) (.slice A264_3 ((rd_T27 t261 (ji6)).f3).length c264_3)) (fun _ h_ => h_.1)))).2.2) hb); have C0_0 := Aside0.mk (show (Kd.int .i64).C wz A264_0 ((rd_T27 t261 (ji6)).f0).length ((rd_T27 t261 (ji6)).f0) from by rw [hz]; exact ((Kd.V_reads' (by (with_reducible repeat (first | apply Kd.V_alloc | apply Kd.V_drewN | apply Kd.V_drew)); exact (Kd.V_mono (Kd.V_far (p := ⟨gb265, 3, none⟩) (Kd.V_far (p := ⟨gb265, 2, none⟩) (Kd.V_far (p := ⟨gb265, 1, none⟩) (Kd.V_far (p := ⟨gb265, 0, none⟩) (Kd.V_mono HL264_0.out (fun k_ hk => (⟨hk, hk.2⟩ : _ ∧ k_ ≠ gb265))) (fun _ hk => hk.2) (.slice A264_0 ((rd_T27 t261 (ji6)).f0).length c264_0)) (fun _ hk => hk.2) (.string ((rd_T27 t261 (ji6)).f1))) (fun _ hk => hk.2) (.int .i64 ((rd_T27 t261 (ji6)).f2))) (fun _ hk => hk.2) (.slice A264_3 ((rd_T27 t261 (ji6)).f3).length c264_3)) (fun _ h_ => h_.1)))).2.2)); have n5_ := Aside0.mk (Kd.C_below ((Kd.V_reads' (by (with_reducible repeat (first | apply Kd.V_alloc | apply Kd.V_drewN | apply Kd.V_drew)); exact (Kd.V_mono (Kd.V_far (p := ⟨gb265, 3, none⟩) (Kd.V_far (p := ⟨gb265, 2, none⟩) (Kd.V_far (p := ⟨gb265, 1, none⟩) (Kd.V_far (p := ⟨gb265, 0, none⟩) (Kd.V_mono HL264_3.out (fun k_ hk => (⟨hk, hk.2⟩ : _ ∧ k_ ≠ gb265))) (fun _ hk => hk.2) (.slice A264_0 ((rd_T27 t261 (ji6)).f0).length c264_0)) (fun _ hk => hk.2) (.string ((rd_T27 t261 (ji6)).f1))) (fun _ hk => hk.2) (.int .i64 ((rd_T27 t261 (ji6)).f2))) (fun _ hk => hk.2) (.slice A264_3 ((rd_T27 t261 (ji6)).f3).length c264_3)) (fun _ h_ => h_.1)))).2.2) hb); have C0_3 := Aside0.mk (show (Kd.int .i64).C wz A264_3 ((rd_T27 t261 (ji6)).f3).length ((rd_T27 t261 (ji6)).f3) from by rw [hz]; exact ((Kd.V_reads' (by (with_reducible repeat (first | apply Kd.V_alloc | apply Kd.V_drewN | apply Kd.V_drew)); exact (Kd.V_mono (Kd.V_far (p := ⟨gb265, 3, none⟩) (Kd.V_far (p := ⟨gb265, 2, none⟩) (Kd.V_far (p := ⟨gb265, 1, none⟩) (Kd.V_far (p := ⟨gb265, 0, none⟩) (Kd.V_mono HL264_3.out (fun k_ hk => (⟨hk, hk.2⟩ : _ ∧ k_ ≠ gb265))) (fun _ hk => hk.2) (.slice A264_0 ((rd_T27 t261 (ji6)).f0).length c264_0)) (fun _ hk => hk.2) (.string ((rd_T27 t261 (ji6)).f1))) (fun _ hk => hk.2) (.int .i64 ((rd_T27 t261 (ji6)).f2))) (fun _ hk => hk.2) (.slice A264_3 ((rd_T27 t261 (ji6)).f3).length c264_3)) (fun _ h_ => h_.1)))).2.2)); have n6_ := Aside0.mk (blk_below (g := gb265) (o := .cells #[.slice A264_0 ((rd_T27 t261 (ji6)).f0).length c264_0, .string ((rd_T27 t261 (ji6)).f1), .int .i64 ((rd_T27 t261 (ji6)).f2), .slice A264_3 ((rd_T27 t261 (ji6)).f3).length c264_3] 27 (0, 0)) (by (with_reducible repeat (first | refine blk_drewN ?_ _ | refine blk_drew ?_ | refine blk_alloc ?_ _)); refine blk_put (cs := #[.slice A264_0 ((rd_T27 t261 (ji6)).f0).length c264_0, .string ((rd_T27 t261 (ji6)).f1), .int .i64 ((rd_T27 t261 (ji6)).f2), .slice none 0 0]) ?_ 3 _ rfl; (with_reducible repeat (first | refine blk_drewN ?_ _ | refine blk_drew ?_ | refine blk_alloc ?_ _)); refine blk_put (cs := #[.slice A264_0 ((rd_T27 t261 (ji6)).f0).length c264_0, .string ((rd_T27 t261 (ji6)).f1), .int .i64 0, .slice none 0 0]) ?_ 2 _ rfl; (with_reducible repeat (first | refine blk_drewN ?_ _ | refine blk_drew ?_ | refine blk_alloc ?_ _)); refine blk_put (cs := #[.slice A264_0 ((rd_T27 t261 (ji6)).f0).length c264_0, .string (⟨#[]⟩ : ByteArray), .int .i64 0, .slice none 0 0]) ?_ 1 _ rfl; (with_reducible repeat (first | refine blk_drewN ?_ _ | refine blk_drew ?_ | refine blk_alloc ?_ _)); refine blk_put (cs := #[.slice none 0 0, .string (⟨#[]⟩ : ByteArray), .int .i64 0, .slice none 0 0]) ?_ 0 _ rfl; (with_reducible repeat (first | refine blk_drewN ?_ _ | refine blk_drew ?_ | refine blk_alloc ?_ _)); exact BK265.out) hb); have n7_ := Aside0.mk (show KB.BB w wz w14 from ⟨below_step (by repeat (first | (with_reducible first | exact HB.out | apply below_alloc | apply pw_below_drewN | apply below_drew1 | refine below_set ?_ GE265.out) | exact HB.out)) hb, hbz⟩); clear HO263; clear HL264_0; clear HL264_3; clear HR264_0; clear HR264_3; clear BK265; clear HB; have HO263 := n0_; have HL264_0 := n1_; have HL264_3 := n2_; have HO268 := n3_; have HR264_0 := n4_; have HR264_3 := n5_; have BK265 := n6_; have HB := n7_; clear n0_ n1_ n2_ n3_ n4_ n5_ n6_ n7_; clear hb ho15))
            go_loopg [9] k (fun kq v9 w' => ∃ (x8_1 : List Int) (x9_1 : Int), v9 = .int .i64 x9_1 ∧ Aside0 (sobriquetlaw22_AttrNames.l0 kq a1 t261 ji6 x8_1 x9_1 ((rd_T27 t261 (ji6)).f0) ((rd_T27 t261 (ji6)).f1) ((rd_T27 t261 (ji6)).f2) ((rd_T27 t261 (ji6)).f3) = some r) ∧ Aside0 (kq ≤ k) ∧ Aside0 (Kd.N k27 27 w' w.heap.size (fun k_ => some k_ ≠ (v267 : Value).ownBlock ∧ k_ ≠ gb265) (.slice (some ad264) t261.length co11) t261) ∧ Aside0 (KB.R w' wz.heap.size (fun _ => True) v267 x8_1) ∧ Aside0 (w'.heap[gb265]? = some (.cells #[(.slice A264_0 ((rd_T27 t261 (ji6)).f0).length c264_0), .string ((rd_T27 t261 (ji6)).f1), .int .i64 ((rd_T27 t261 (ji6)).f2), (.slice A264_3 ((rd_T27 t261 (ji6)).f3).length c264_3)] 27 (0, 0))) ∧ Aside0 (KB.BB w wz w'))
            case atStart => exact ⟨(y266), (0), (by first | rfl | (simp; done) | (simp [*]; done)), H', ⟨Nat.le_refl _⟩, ⟨by (with_reducible repeat (first | apply Kd.N_alloc | apply Kd.N_drewN | apply Kd.N_drew)); exact Kd.N_mono HO263.out (fun _ hk => ⟨hk.2, hk.1.2⟩)⟩, ⟨by (with_reducible repeat (first | apply Kd.R_alloc | apply Kd.R_drewN | apply Kd.R_drew | apply KB.R_alloc | apply KB.R_drewN | apply KB.R_drew)); exact HO268.out⟩, ⟨by (with_reducible repeat (first | refine blk_drewN ?_ _ | refine blk_drew ?_ | refine blk_alloc ?_ _)); exact BK265.out⟩, ⟨by repeat (first | (with_reducible first | exact HB.out | apply KB.bb_alloc | apply KB.bb_drewN | apply KB.bb_drew1 | refine KB.bb_set ?_ GE265.out) | exact HB.out)⟩⟩
            case round =>
              clear H'
              try clear c2
              try clear p2
              try clear q2
              try clear hx2
              try clear c3
              try clear c4
              try clear c4b0
              try clear c4b1
              try clear c4b2
              try clear c5
              try clear c5b0
              try clear c5b1
              try clear p6
              try clear c7
              try clear c7b0
              try clear c8
              try clear c8b0
              try clear c9
              try clear c9b0
              try clear c9b1
              try clear hcz13_0
              try clear hcz13_1
              try clear hcz13_2
              try clear hcz13_3
              try clear hfz13_0
              try clear hfz13_1
              try clear hfz13_2
              try clear hfz13_3
              try clear hx264_0
              try clear hx264_1
              try clear hx264_2
              try clear hx264_3
              try clear p264
              try clear q264
              obtain ⟨x8_1, x9_1, rfl, HA, HK1, HO_5, HO_8, BK265, HB⟩ := hrel
              cases gk with
              | zero => exact absurd HA.out (by simp [sobriquetlaw22_AttrNames.l0])
              | succ k1 =>
                have H := HA.out
                clear HA
                simp only [sobriquetlaw22_AttrNames.l0] at H
                by_cases c16 : x9_1 < (x8_1.length : Int)
                · rw [if_pos c16] at H
                  have c16b0 : decide (x9_1 < (x8_1.length : Int)) = true := decide_eq_true c16
                  clear c16
                  by_cases c17 : 0 ≤ x9_1
                  · rw [if_pos c17] at H
                    have c17b0 : decide (0 ≤ x9_1) = true := decide_eq_true c17
                    clear c17
                    by_cases c18 : (rd x8_1 x9_1) ≥ 65
                    · rw [if_pos c18] at H
                      have c18b0 : decide (65 ≤ (rd x8_1 x9_1)) = true := decide_eq_true c18
                      clear c18
                      by_cases c19 : (rd x8_1 x9_1) ≤ 90
                      · rw [if_pos c19] at H
                        have c19b0 : decide ((rd x8_1 x9_1) ≤ 90) = true := decide_eq_true c19
                        clear c19
                        obtain ⟨ji20, hji20⟩ : ∃ j_ : Int, (IntKind.u64.wrap (Int.tmod x9_1 16)) = j_ := ⟨_, rfl⟩
                        replace H : (if 0 ≤ (ji20) then (if (Go.bits .and .u64 (shr .u64 (IntKind.u64.wrap (a1)) (ji20)) 1) = 1 then (sobriquetlaw22_AttrNames.l0 k1 a1 t261 ji6 (x8_1.set (x9_1 : Int).toNat (((rd x8_1 x9_1) + 32) % 256)) (wrap64 (x9_1 + 1)) ((rd_T27 t261 (ji6)).f0) ((rd_T27 t261 (ji6)).f1) ((rd_T27 t261 (ji6)).f2) ((rd_T27 t261 (ji6)).f3)) else (sobriquetlaw22_AttrNames.l0 k1 a1 t261 ji6 x8_1 (wrap64 (x9_1 + 1)) ((rd_T27 t261 (ji6)).f0) ((rd_T27 t261 (ji6)).f1) ((rd_T27 t261 (ji6)).f2) ((rd_T27 t261 (ji6)).f3))) else (none)) = some r := by first | (rw [hji20] at H; exact H) | (simp only [hji20] at H ⊢; exact H)
                        by_cases c21 : 0 ≤ (ji20)
                        · rw [if_pos c21] at H
                          have c21b0 := eq_true c21
                          have c21b1 : decide (0 ≤ (ji20)) = true := decide_eq_true c21
                          clear c21
                          obtain ⟨ji22, hji22⟩ : ∃ j_ : Int, (shr .u64 (IntKind.u64.wrap (a1)) (ji20)) = j_ := ⟨_, rfl⟩
                          replace H : (if (Go.bits .and .u64 (ji22) 1) = 1 then (sobriquetlaw22_AttrNames.l0 k1 a1 t261 ji6 (x8_1.set (x9_1 : Int).toNat (((rd x8_1 x9_1) + 32) % 256)) (wrap64 (x9_1 + 1)) ((rd_T27 t261 (ji6)).f0) ((rd_T27 t261 (ji6)).f1) ((rd_T27 t261 (ji6)).f2) ((rd_T27 t261 (ji6)).f3)) else (sobriquetlaw22_AttrNames.l0 k1 a1 t261 ji6 x8_1 (wrap64 (x9_1 + 1)) ((rd_T27 t261 (ji6)).f0) ((rd_T27 t261 (ji6)).f1) ((rd_T27 t261 (ji6)).f2) ((rd_T27 t261 (ji6)).f3))) = some r := by first | (rw [hji22] at H; exact H) | (simp only [hji22] at H ⊢; exact H)
                          have hji22_ : ((IntKind.u64.wrap (a1)) / 2 ^ min (ji20).toNat 64) = ji22 := hji22
                          have hji22z : (ji20) ≤ 64 → ((IntKind.u64.wrap (a1)) / 2 ^ (ji20).toNat) = ji22 := shr_small hji22
                          by_cases c23 : (Go.bits .and .u64 (ji22) 1) = 1
                          · rw [if_pos c23] at H
                            have c23b0 : ((Go.bits .and .u64 (ji22) 1) == 1) = true := beq_iff_eq.mpr c23
                            have c23b1 : ((Go.bits .and .u64 (ji22) 1) != 1) = false := bne_eq_false_iff_eq.mpr c23
                            clear c23
                            obtain ⟨y272, hy272⟩ : ∃ y_ : List Int, y_ = (x8_1.set (x9_1 : Int).toNat (((rd x8_1 x9_1) + 32) % 256)) := ⟨_, rfl⟩
                            replace H : (sobriquetlaw22_AttrNames.l0 k1 a1 t261 ji6 y272 (wrap64 (x9_1 + 1)) ((rd_T27 t261 (ji6)).f0) ((rd_T27 t261 (ji6)).f1) ((rd_T27 t261 (ji6)).f2) ((rd_T27 t261 (ji6)).f3)) = some r := by first | (rw [hy272]; with_reducible exact H) | (have H2_ := (Option.bind_some _ _).symm.trans H; rw [hy272]; with_reducible exact H2_) | (have H2_ := (Option.bind_some _ _).symm.trans H; with_reducible exact H2_) | with_reducible exact H | (rw [hy272]; exact H) | exact H
                            have Ny272 := Aside0.mk hy272
                            clear hy272
                            have H' := Aside0.mk H
                            clear H
                            obtain ⟨Ao25, co25, eo25⟩ := KB.R_slice HO_8.out
                            subst eo25
                            have p269 : 0 ≤ (x9_1 : Int) := of_decide_eq_true (by first | (with_reducible assumption) | assumption)
                            have q269 : x9_1 < (x8_1.length : Int) := of_decide_eq_true (by first | (with_reducible assumption) | assumption)
                            obtain ⟨ad269, e269, hx269_0⟩ := Kd.at_int (KB.R_reads' HO_8.out).2.2 x9_1 p269 q269
                            cases e269
                            replace p269 := eq_true p269
                            replace q269 := eq_true q269
                            have p270 : 0 ≤ (x9_1 : Int) := of_decide_eq_true (by first | (with_reducible assumption) | assumption)
                            have q270 : x9_1 < (x8_1.length : Int) := of_decide_eq_true (by first | (with_reducible assumption) | assumption)
                            obtain ⟨ad270, e270, hx270_0⟩ := Kd.at_int (KB.R_reads' HO_8.out).2.2 x9_1 p270 q270
                            obtain rfl : ad269 = ad270 := (by injection e270)
                            replace p270 := eq_true p270
                            replace q270 := eq_true q270
                            have p271 : 0 ≤ (x9_1 : Int) := of_decide_eq_true (by first | (with_reducible assumption) | assumption)
                            have q271 : x9_1 < (x8_1.length : Int) := of_decide_eq_true (by first | (with_reducible assumption) | assumption)
                            obtain ⟨ad271, e271, hx271_0⟩ := Kd.at_int (KB.R_reads' HO_8.out).2.2 x9_1 p271 q271
                            obtain rfl : ad269 = ad271 := (by injection e271)
                            replace p271 := eq_true p271
                            replace q271 := eq_true q271
                            have p24 : 0 ≤ (x9_1 : Int) := of_decide_eq_true (by first | (with_reducible assumption) | assumption)
                            have q24 : (x9_1 : Int) < ((x8_1.length : Int) : Int) := of_decide_eq_true (by first | (with_reducible assumption) | assumption)
                            obtain ⟨go24, co24, eo24, gb24, gl24, cl24, HG24⟩ := KB.R_form HO_8.out (by omega)
                            (first | cases eo24 | (injection eo24 with ea_ en_ ec_; (first | subst ea_ | (injection ea_ with ea_; subst ea_)); subst ec_; clear en_))
                            have GB24 := Aside0.mk (KB.bg_of ZZ0.out gb24)
                            have GG24 := Aside0.mk HG24
                            clear gb24 gl24 HG24
                            (first | simp only [add_plain] at hx269_0 | skip)
                            (first | simp only [add_plain] at hx270_0 | skip)
                            (first | simp only [add_plain] at hx271_0 | skip)
                            obtain ⟨hx24_0, hf24_0⟩ := KB.R_celln HO_8.out (x9_1 : Int) p24 q24
                            replace p24 := eq_true p24
                            replace q24 := eq_true q24
                            have HP26 := KB.R_putg HO_8.out (x9_1 : Int) (((rd x8_1 x9_1) + 32) % 256)
                            go_wp2_with (first | ((with_reducible refine gate_store (t := 5) (p := 70) rfl ?_); refine store_event (t := 5) (p := 70) (v := ?vo_w27) (w1 := (wr.setCell ⟨go24, (x9_1 : Int).toNat, none⟩ (.int .u8 (((rd x8_1 x9_1) + 32) % 256)))) ?hg ?ho ?hn ?hr ?_; (case ho => rfl); (case hg => rfl); (case hn => rfl); (case hr => first | (go_simp; done) | (go_simp; rfl)); intro w27 hw; have hg : wr.grownBy w27 (some go24) := (by rw [hw]; exact HP26.2); have hp_ : KB.R w27 wz.heap.size (fun _ => True) (.slice (some ⟨go24, 0, none⟩) x8_1.length co25) y272 := (by rw [hw, Ny272.out]; exact HP26.1); clear HP26; have n0_ := Aside0.mk (Kd.N_afterv (v := (.slice (some ⟨go24, 0, none⟩) x8_1.length co25)) (v1 := (.slice (some ⟨go24, 0, none⟩) x8_1.length co25)) (ok := (fun k_ => k_ ≠ gb265)) (by (with_reducible repeat (first | apply Kd.N_alloc | apply Kd.N_drewN | apply Kd.N_drew)); exact Kd.N_mono HO_5.out (fun _ hk => by first | exact ⟨hk.2, hk.1⟩ | exact hk.1 | exact hk.2 | exact hk)) hg (.inl rfl)); have n1_ := Aside0.mk (hp_); have n2_ := Aside0.mk (blk_grown (g := gb265) (o := .cells #[.slice A264_0 ((rd_T27 t261 (ji6)).f0).length c264_0, .string ((rd_T27 t261 (ji6)).f1), .int .i64 ((rd_T27 t261 (ji6)).f2), .slice A264_3 ((rd_T27 t261 (ji6)).f3).length c264_3] 27 (0, 0)) (by (with_reducible repeat (first | refine blk_drewN ?_ _ | refine blk_drew ?_ | refine blk_alloc ?_ _)); exact BK265.out) hg (KB.R_ne HO_8.out BK265.out (by decide))); have n3_ := Aside0.mk ((by rw [hw]; exact KB.bb_set (HB.out) GB24.out : KB.BB w wz w27)); clear HO_5; clear HO_8; clear BK265; clear HB; have HO_5 := n0_; have HO_8 := n1_; have BK265 := n2_; have HB := n3_; clear n0_ n1_ n2_ n3_; clear hg hw hp_))
                            go_roundg k1
                            case measure => have := HK1.out; omega
                            case rel => exact ⟨(y272), (wrap64 (x9_1 + 1)), (by first | rfl | (simp; done) | (simp [*]; done)), H', ⟨by have := HK1.out; omega⟩, ⟨by (with_reducible repeat (first | apply Kd.N_alloc | apply Kd.N_drewN | apply Kd.N_drew)); exact Kd.N_mono HO_5.out (fun _ hk => ⟨hk.2, hk.1⟩)⟩, ⟨by (with_reducible repeat (first | apply Kd.R_alloc | apply Kd.R_drewN | apply Kd.R_drew | apply KB.R_alloc | apply KB.R_drewN | apply KB.R_drew)); exact HO_8.out⟩, ⟨by (with_reducible repeat (first | refine blk_drewN ?_ _ | refine blk_drew ?_ | refine blk_alloc ?_ _)); exact BK265.out⟩, ⟨by repeat (first | (with_reducible first | exact HB.out | apply KB.bb_alloc | apply KB.bb_drewN | apply KB.bb_drew1 | refine KB.bb_set ?_ GE265.out) | exact HB.out)⟩⟩
                          · rw [if_neg c23] at H
                            have c23b0 : ((Go.bits .and .u64 (ji22) 1) == 1) = false := beq_eq_false_iff_ne.mpr c23
                            have c23b1 : ((Go.bits .and .u64 (ji22) 1) != 1) = true := bne_iff_ne.mpr c23
                            have H' := Aside0.mk H
                            clear H
                            obtain ⟨Ao28, co28, eo28⟩ := KB.R_slice HO_8.out
                            subst eo28
                            have p269 : 0 ≤ (x9_1 : Int) := of_decide_eq_true (by first | (with_reducible assumption) | assumption)
                            have q269 : x9_1 < (x8_1.length : Int) := of_decide_eq_true (by first | (with_reducible assumption) | assumption)
                            obtain ⟨ad269, e269, hx269_0⟩ := Kd.at_int (KB.R_reads' HO_8.out).2.2 x9_1 p269 q269
                            cases e269
                            replace p269 := eq_true p269
                            replace q269 := eq_true q269
                            have p270 : 0 ≤ (x9_1 : Int) := of_decide_eq_true (by first | (with_reducible assumption) | assumption)
                            have q270 : x9_1 < (x8_1.length : Int) := of_decide_eq_true (by first | (with_reducible assumption) | assumption)
                            obtain ⟨ad270, e270, hx270_0⟩ := Kd.at_int (KB.R_reads' HO_8.out).2.2 x9_1 p270 q270
                            obtain rfl : ad269 = ad270 := (by injection e270)
                            replace p270 := eq_true p270
                            replace q270 := eq_true q270
                            go_wp2
                            go_roundg k1
                            case measure => have := HK1.out; omega
                            case rel => exact ⟨(x8_1), (wrap64 (x9_1 + 1)), (by first | rfl | (simp; done) | (simp [*]; done)), H', ⟨by have := HK1.out; omega⟩, ⟨by (with_reducible repeat (first | apply Kd.N_alloc | apply Kd.N_drewN | apply Kd.N_drew)); exact HO_5.out⟩, ⟨by (with_reducible repeat (first | apply Kd.R_alloc | apply Kd.R_drewN | apply Kd.R_drew | apply KB.R_alloc | apply KB.R_drewN | apply KB.R_drew)); exact HO_8.out⟩, ⟨by (with_reducible repeat (first | refine blk_drewN ?_ _ | refine blk_drew ?_ | refine blk_alloc ?_ _)); exact BK265.out⟩, ⟨by repeat (first | (with_reducible first | exact HB.out | apply KB.bb_alloc | apply KB.bb_drewN | apply KB.bb_drew1 | refine KB.bb_set ?_ GE265.out) | exact HB.out)⟩⟩
                        · rw [if_neg c21] at H
                          exact absurd H (by simp)
                      · rw [if_neg c19] at H
                        have c19b0 : decide ((rd x8_1 x9_1) ≤ 90) = false := decide_eq_false c19
                        clear c19
                        have H' := Aside0.mk H
                        clear H
                        obtain ⟨Ao29, co29, eo29⟩ := KB.R_slice HO_8.out
                        subst eo29
                        have p269 : 0 ≤ (x9_1 : Int) := of_decide_eq_true (by first | (with_reducible assumption) | assumption)
                        have q269 : x9_1 < (x8_1.length : Int) := of_decide_eq_true (by first | (with_reducible assumption) | assumption)
                        obtain ⟨ad269, e269, hx269_0⟩ := Kd.at_int (KB.R_reads' HO_8.out).2.2 x9_1 p269 q269
                        cases e269
                        replace p269 := eq_true p269
                        replace q269 := eq_true q269
                        have p270 : 0 ≤ (x9_1 : Int) := of_decide_eq_true (by first | (with_reducible assumption) | assumption)
                        have q270 : x9_1 < (x8_1.length : Int) := of_decide_eq_true (by first | (with_reducible assumption) | assumption)
                        obtain ⟨ad270, e270, hx270_0⟩ := Kd.at_int (KB.R_reads' HO_8.out).2.2 x9_1 p270 q270
                        obtain rfl : ad269 = ad270 := (by injection e270)
                        replace p270 := eq_true p270
                        replace q270 := eq_true q270
                        go_wp2
                        go_roundg k1
                        case measure => have := HK1.out; omega
                        case rel => exact ⟨(x8_1), (wrap64 (x9_1 + 1)), (by first | rfl | (simp; done) | (simp [*]; done)), H', ⟨by have := HK1.out; omega⟩, ⟨by (with_reducible repeat (first | apply Kd.N_alloc | apply Kd.N_drewN | apply Kd.N_drew)); exact HO_5.out⟩, ⟨by (with_reducible repeat (first | apply Kd.R_alloc | apply Kd.R_drewN | apply Kd.R_drew | apply KB.R_alloc | apply KB.R_drewN | apply KB.R_drew)); exact HO_8.out⟩, ⟨by (with_reducible repeat (first | refine blk_drewN ?_ _ | refine blk_drew ?_ | refine blk_alloc ?_ _)); exact BK265.out⟩, ⟨by repeat (first | (with_reducible first | exact HB.out | apply KB.bb_alloc | apply KB.bb_drewN | apply KB.bb_drew1 | refine KB.bb_set ?_ GE265.out) | exact HB.out)⟩⟩
                    · rw [if_neg c18] at H
                      have c18b0 : decide (65 ≤ (rd x8_1 x9_1)) = false := decide_eq_false c18
                      clear c18
                      have H' := Aside0.mk H
                      clear H
                      obtain ⟨Ao30, co30, eo30⟩ := KB.R_slice HO_8.out
                      subst eo30
                      have p269 : 0 ≤ (x9_1 : Int) := of_decide_eq_true (by first | (with_reducible assumption) | assumption)
                      have q269 : x9_1 < (x8_1.length : Int) := of_decide_eq_true (by first | (with_reducible assumption) | assumption)
                      obtain ⟨ad269, e269, hx269_0⟩ := Kd.at_int (KB.R_reads' HO_8.out).2.2 x9_1 p269 q269
                      cases e269
                      replace p269 := eq_true p269
                      replace q269 := eq_true q269
                      go_wp2
                      go_roundg k1
                      case measure => have := HK1.out; omega
                      case rel => exact ⟨(x8_1), (wrap64 (x9_1 + 1)), (by first | rfl | (simp; done) | (simp [*]; done)), H', ⟨by have := HK1.out; omega⟩, ⟨by (with_reducible repeat (first | apply Kd.N_alloc | apply Kd.N_drewN | apply Kd.N_drew)); exact HO_5.out⟩, ⟨by (with_reducible repeat (first | apply Kd.R_alloc | apply Kd.R_drewN | apply Kd.R_drew | apply KB.R_alloc | apply KB.R_drewN | apply KB.R_drew)); exact HO_8.out⟩, ⟨by (with_reducible repeat (first | refine blk_drewN ?_ _ | refine blk_drew ?_ | refine blk_alloc ?_ _)); exact BK265.out⟩, ⟨by repeat (first | (with_reducible first | exact HB.out | apply KB.bb_alloc | apply KB.bb_drewN | apply KB.bb_drew1 | refine KB.bb_set ?_ GE265.out) | exact HB.out)⟩⟩
                  · rw [if_neg c17] at H
                    exact absurd H (by simp)
                · rw [if_neg c16] at H
                  have c16b0 : decide (x9_1 < (x8_1.length : Int)) = false := decide_eq_false c16
                  clear c16
                  replace H := Option.bind_eq_some_iff.mp H
                  obtain ⟨⟨t273, t276, t277, t278, t281⟩, A310, H⟩ := H
                  replace H : ((attr_ByName.f k1 (strOfNums x8_1)).bind fun bt283 => (if ((rd_T27 t261 (ji6)).f1).size + 1 ≤ 9223372036854775807 then ((attr_ByName.f k1 (((rd_T27 t261 (ji6)).f1) ++ (⟨#[45]⟩ : ByteArray))).bind fun bt293 => (sobriquetlaw22_AttrNames.l1 k1 t261 ji6 t281 bt283.2.2.2.2 bt293.2.2.2.2 0 ((rd_T27 t261 (ji6)).f0) ((rd_T27 t261 (ji6)).f1) ((rd_T27 t261 (ji6)).f2) ((rd_T27 t261 (ji6)).f3) t273 t276 t277 t278 bt283.1 bt283.2.1 bt283.2.2.1 bt283.2.2.2.1)) else (none))) = some r := H
                  have A31 := Aside0.mk A310
                  clear A310
                  replace H := Option.bind_eq_some_iff.mp H
                  obtain ⟨⟨t283, t286, t287, t288, t291⟩, A320, H⟩ := H
                  replace H : (if ((rd_T27 t261 (ji6)).f1).size + 1 ≤ 9223372036854775807 then ((attr_ByName.f k1 (((rd_T27 t261 (ji6)).f1) ++ (⟨#[45]⟩ : ByteArray))).bind fun bt293 => (sobriquetlaw22_AttrNames.l1 k1 t261 ji6 t281 t291 bt293.2.2.2.2 0 ((rd_T27 t261 (ji6)).f0) ((rd_T27 t261 (ji6)).f1) ((rd_T27 t261 (ji6)).f2) ((rd_T27 t261 (ji6)).f3) t273 t276 t277 t278 t283 t286 t287 t288)) else (none)) = some r := H
                  have A32 := Aside0.mk A320
                  clear A320
                  by_cases c33 : ((rd_T27 t261 (ji6)).f1).size + 1 ≤ 9223372036854775807
                  · rw [if_pos c33] at H
                    have c33b0 := eq_true c33
                    have c33b1 : decide (((rd_T27 t261 (ji6)).f1).size + 1 ≤ 9223372036854775807) = true := decide_eq_true c33
                    try have c33b2 : (9223372036854775807 < ((rd_T27 t261 (ji6)).f1).size + 1) = False := eq_false (Nat.not_lt.2 c33)
                    replace H := Option.bind_eq_some_iff.mp H
                    obtain ⟨⟨t293, t296, t297, t298, t301⟩, A340, H⟩ := H
                    replace H : (sobriquetlaw22_AttrNames.l1 k1 t261 ji6 t281 t291 t301 0 ((rd_T27 t261 (ji6)).f0) ((rd_T27 t261 (ji6)).f1) ((rd_T27 t261 (ji6)).f2) ((rd_T27 t261 (ji6)).f3) t273 t276 t277 t278 t283 t286 t287 t288) = some r := H
                    have A34 := Aside0.mk A340
                    clear A340
                    have H' := Aside0.mk H
                    clear H
                    obtain ⟨Ao35, co35, eo35⟩ := KB.R_slice HO_8.out
                    subst eo35
                    have hcz36_0 : wr.cell? ⟨gb265, 0, none⟩ = some (.slice A264_0 ((rd_T27 t261 (ji6)).f0).length c264_0) := (blk_cell BK265.out 0).trans rfl
                    have hcz36_1 : wr.cell? ⟨gb265, 1, none⟩ = some (.string ((rd_T27 t261 (ji6)).f1)) := (blk_cell BK265.out 1).trans rfl
                    have hcz36_2 : wr.cell? ⟨gb265, 2, none⟩ = some (.int .i64 ((rd_T27 t261 (ji6)).f2)) := (blk_cell BK265.out 2).trans rfl
                    have hcz36_3 : wr.cell? ⟨gb265, 3, none⟩ = some (.slice A264_3 ((rd_T27 t261 (ji6)).f3).length c264_3) := (blk_cell BK265.out 3).trans rfl
                    have hfz36_0 := blk_frozen BK265.out 0
                    have hfz36_1 := blk_frozen BK265.out 1
                    have hfz36_2 := blk_frozen BK265.out 2
                    have hfz36_3 := blk_frozen BK265.out 3
                    go_wp2_with (first | ((with_reducible refine gate_callee (f := 8) rfl ?_); refine goesL_ (some 74) rfl rfl Try.func8 (by kernel_rfl) rfl #[.slice A264_0 ((rd_T27 t261 (ji6)).f0).length c264_0] rfl (by (try simp only [List.map_toArray, List.map_cons, List.map_nil]); first | done | rfl | (simp only [List.length_drop, List.length_take]; rfl)) ?_; (with_reducible refine (attr_Find.calls k1 _ _ ((rd_T27 t261 (ji6)).f0) t273 t276 t277 t278 t281 _ ?side1 ?side2 A31.out).mono ?_); (case side1 => repeat (first | exact (Kd.C_below C0_0.out HB.out.2) | (with_reducible refine Kd.C_alloc ?_ _) | (with_reducible refine Kd.C_drewN ?_ _) | (with_reducible refine Kd.C_drew ?_))); (case side2 => exact HC264_0.out); rintro e w37 ⟨v274, v279, rfl, ho0, ho1, hb⟩; refine ⟨_, rfl, ?_⟩; have n0_ := Aside0.mk (Kd.N_elder' (by (with_reducible repeat (first | apply Kd.N_alloc | apply Kd.N_drewN | apply Kd.N_drew)); exact HO_5.out) (Kd.R_base ho1) hb); have n1_ := Aside0.mk (KB.R_below (by (with_reducible repeat (first | apply Kd.R_alloc | apply Kd.R_drewN | apply Kd.R_drew | apply KB.R_alloc | apply KB.R_drewN | apply KB.R_drew)); exact HO_8.out) hb); have n2_ := Aside0.mk (Kd.V_lower (Kd.V_mono (ok' := fun k_ => some k_ ≠ (v279 : Value).ownBlock ∧ some k_ ≠ (.slice (some ad264) t261.length co11 : Value).ownBlock ∧ some k_ ≠ (.slice Ao35 x8_1.length co35 : Value).ownBlock ∧ k_ ≠ gb265) ho0 (fun k_ hk_ => ⟨hk_.2, (Kd.fresh' (Kd.N_lt (by (with_reducible repeat (first | apply Kd.N_alloc | apply Kd.N_drewN | apply Kd.N_drew)); exact HO_5.out)) k_ hk_.1), (Kd.fresh' (KB.R_lt (by (with_reducible repeat (first | apply Kd.R_alloc | apply Kd.R_drewN | apply Kd.R_drew | apply KB.R_alloc | apply KB.R_drewN | apply KB.R_drew)); exact HO_8.out)) k_ hk_.1), (Kd.freshB (g := gb265) (o := .cells #[.slice A264_0 ((rd_T27 t261 (ji6)).f0).length c264_0, .string ((rd_T27 t261 (ji6)).f1), .int .i64 ((rd_T27 t261 (ji6)).f2), .slice A264_3 ((rd_T27 t261 (ji6)).f3).length c264_3] 27 (0, 0)) (by (with_reducible repeat (first | refine blk_drewN ?_ _ | refine blk_drew ?_ | refine blk_alloc ?_ _)); exact BK265.out) k_ hk_.1)⟩)) (KB.bb_size (by repeat (first | (with_reducible first | exact HB.out | apply KB.bb_alloc | apply KB.bb_drewN | apply KB.bb_drew1 | refine KB.bb_set ?_ GE265.out) | exact HB.out)))); have n3_ := Aside0.mk (Kd.R_lower (Kd.R_mono (ok' := fun k_ => True) ho1 (fun _ hk_ => trivial)) (KB.bb_size (by repeat (first | (with_reducible first | exact HB.out | apply KB.bb_alloc | apply KB.bb_drewN | apply KB.bb_drew1 | refine KB.bb_set ?_ GE265.out) | exact HB.out)))); have n4_ := Aside0.mk (blk_below (g := gb265) (o := .cells #[.slice A264_0 ((rd_T27 t261 (ji6)).f0).length c264_0, .string ((rd_T27 t261 (ji6)).f1), .int .i64 ((rd_T27 t261 (ji6)).f2), .slice A264_3 ((rd_T27 t261 (ji6)).f3).length c264_3] 27 (0, 0)) (by (with_reducible repeat (first | refine blk_drewN ?_ _ | refine blk_drew ?_ | refine blk_alloc ?_ _)); exact BK265.out) hb); have n5_ := Aside0.mk (KB.bb_step (by repeat (first | (with_reducible first | exact HB.out | apply KB.bb_alloc | apply KB.bb_drewN | apply KB.bb_drew1 | refine KB.bb_set ?_ GE265.out) | exact HB.out)) hb); clear HO_5; clear HO_8; clear BK265; clear HB; have HO_5 := n0_; have HO_8 := n1_; have HO275 := n2_; have HO280 := n3_; have BK265 := n4_; have HB := n5_; clear n0_ n1_ n2_ n3_ n4_ n5_; (try clear hb); (try clear hb2); (try clear hk); (try clear hi); (try clear ho0); (try clear ho1)) | ((with_reducible refine gate_dst (N := 10) rfl ?_); refine box_event ?hg (N := 10) ?hd (cs := #[.slice none 0 0, .string (⟨#[]⟩ : ByteArray), .int .i64 0, .slice none 0 0]) (t := 27) ?hr ?_; (case hd => rfl); (case hg => rfl); (case hr => first | (go_simp; done) | (go_simp; rfl)); intro gb282 hg w38 hbox hb; have n0_ := Aside0.mk (Kd.N_below (Kd.N_elderB (by (with_reducible repeat (first | apply Kd.N_alloc | apply Kd.N_drewN | apply Kd.N_drew)); exact HO_5.out) gb282 (Nat.le_of_eq hg.symm)) hb); have n1_ := Aside0.mk (KB.R_below (by (with_reducible repeat (first | apply Kd.R_alloc | apply Kd.R_drewN | apply Kd.R_drew | apply KB.R_alloc | apply KB.R_drewN | apply KB.R_drew)); exact HO_8.out) hb); have n2_ := Aside0.mk (Kd.V_below (Kd.V_elderB (by (with_reducible repeat (first | apply Kd.V_alloc | apply Kd.V_drewN | apply Kd.V_drew)); exact HO275.out) gb282 (Nat.le_of_eq hg.symm)) hb); have n3_ := Aside0.mk (Kd.R_below (by (with_reducible repeat (first | apply Kd.R_alloc | apply Kd.R_drewN | apply Kd.R_drew | apply KB.R_alloc | apply KB.R_drewN | apply KB.R_drew)); exact HO280.out) hb); have n4_ := Aside0.mk (blk_below (g := gb265) (o := .cells #[.slice A264_0 ((rd_T27 t261 (ji6)).f0).length c264_0, .string ((rd_T27 t261 (ji6)).f1), .int .i64 ((rd_T27 t261 (ji6)).f2), .slice A264_3 ((rd_T27 t261 (ji6)).f3).length c264_3] 27 (0, 0)) (by (with_reducible repeat (first | refine blk_drewN ?_ _ | refine blk_drew ?_ | refine blk_alloc ?_ _)); exact BK265.out) hb); have n5_ := Aside0.mk (KB.bb_step (by repeat (first | (with_reducible first | exact HB.out | apply KB.bb_alloc | apply KB.bb_drewN | apply KB.bb_drew1 | refine KB.bb_set ?_ GE265.out) | exact HB.out)) hb); have n6_ := Aside0.mk (hbox); have n7_ := Aside0.mk ((by rw [hg]; exact (KB.bb_size2 (by repeat (first | (with_reducible first | exact HB.out | apply KB.bb_alloc | apply KB.bb_drewN | apply KB.bb_drew1 | refine KB.bb_set ?_ GE265.out) | exact HB.out))) : KB.BG w wz gb282)); have n8_ := Aside0.mk ((by rw [hg]; exact (KB.bb_size2 (by repeat (first | (with_reducible first | exact HB.out | apply KB.bb_alloc | apply KB.bb_drewN | apply KB.bb_drew1 | refine KB.bb_set ?_ GE265.out) | exact HB.out))) : KB.BG w wz gb282)); have n9_ := Aside0.mk ((by rw [hg]; exact Nat.ne_of_lt (blk_lt (g := gb265) (o := .cells #[.slice A264_0 ((rd_T27 t261 (ji6)).f0).length c264_0, .string ((rd_T27 t261 (ji6)).f1), .int .i64 ((rd_T27 t261 (ji6)).f2), .slice A264_3 ((rd_T27 t261 (ji6)).f3).length c264_3] 27 (0, 0)) (by (with_reducible repeat (first | refine blk_drewN ?_ _ | refine blk_drew ?_ | refine blk_alloc ?_ _)); exact BK265.out)) : gb265 ≠ gb282)); have n10_ := Aside0.mk ((by rw [hg]; exact Nat.ne_of_gt (blk_lt (g := gb265) (o := .cells #[.slice A264_0 ((rd_T27 t261 (ji6)).f0).length c264_0, .string ((rd_T27 t261 (ji6)).f1), .int .i64 ((rd_T27 t261 (ji6)).f2), .slice A264_3 ((rd_T27 t261 (ji6)).f3).length c264_3] 27 (0, 0)) (by (with_reducible repeat (first | refine blk_drewN ?_ _ | refine blk_drew ?_ | refine blk_alloc ?_ _)); exact BK265.out)) : gb282 ≠ gb265)); clear HO_5; clear HO_8; clear HO275; clear HO280; clear BK265; clear HB; have HO_5 := n0_; have HO_8 := n1_; have HO275 := n2_; have HO280 := n3_; have BK265 := n4_; have HB := n5_; have BK282 := n6_; have GW282 := n7_; have GE282 := n8_; have NB265_282 := n9_; have NB282_265 := n10_; clear n0_ n1_ n2_ n3_ n4_ n5_ n6_ n7_ n8_ n9_ n10_; clear hb hbox hg; obtain ⟨Ao39, co39, eo39⟩ := Kd.V_slice HO275.out; subst eo39; have hnb40 := NB282_265.out; have hnc40 := NB265_282.out; have hcz41_0 : w38.cell? ⟨gb282, 0, none⟩ = some (.slice none 0 0) := (blk_cell BK282.out 0).trans rfl; have hcz41_1 : w38.cell? ⟨gb282, 1, none⟩ = some (.string (⟨#[]⟩ : ByteArray)) := (blk_cell BK282.out 1).trans rfl; have hcz41_2 : w38.cell? ⟨gb282, 2, none⟩ = some (.int .i64 0) := (blk_cell BK282.out 2).trans rfl; have hcz41_3 : w38.cell? ⟨gb282, 3, none⟩ = some (.slice none 0 0) := (blk_cell BK282.out 3).trans rfl; have hfz41_0 := blk_frozen BK282.out 0; have hfz41_1 := blk_frozen BK282.out 1; have hfz41_2 := blk_frozen BK282.out 2; have hfz41_3 := blk_frozen BK282.out 3; obtain ⟨Ao42, co42, eo42⟩ := Kd.R_slice HO280.out; subst eo42; have hcv43 := KB.string (P := Try.prog) Try.underlying28 Try.underlying5 Try.underlying9 (KB.R_far (p := ⟨gb282, 3, none⟩) (KB.R_far (p := ⟨gb282, 2, none⟩) (KB.R_far (p := ⟨gb282, 1, none⟩) (KB.R_far (p := ⟨gb282, 0, none⟩) (KB.R_types HO_8.out BK282.out (by decide)) (fun _ hk => hk.2) (.slice Ao39 t273.length co39)) (fun _ hk => hk.2) (.string t276)) (fun _ hk => hk.2) (.int .i64 t277)) (fun _ hk => hk.2) (.slice Ao42 t278.length co42))) | ((with_reducible refine gate_callee (f := 9) rfl ?_); refine goesL_ (some 80) rfl rfl Try.func9 (by kernel_rfl) rfl #[.string (strOfNums x8_1)] rfl (by (try simp only [List.map_toArray, List.map_cons, List.map_nil]); first | done | rfl | (simp only [List.length_drop, List.length_take]; rfl)) ?_; (with_reducible refine (attr_ByName.calls k1 (strOfNums x8_1) t283 t286 t287 t288 t291 _ A32.out).mono ?_); rintro e w44 ⟨v284, v289, rfl, ho0, ho1, hb⟩; refine ⟨_, rfl, ?_⟩; have n0_ := Aside0.mk (Kd.N_elder' (by (with_reducible repeat (first | apply Kd.N_alloc | apply Kd.N_drewN | apply Kd.N_drew)); exact (Kd.N_mono (Kd.N_far (p := ⟨gb282, 3, none⟩) (Kd.N_far (p := ⟨gb282, 2, none⟩) (Kd.N_far (p := ⟨gb282, 1, none⟩) (Kd.N_far (p := ⟨gb282, 0, none⟩) (Kd.N_mono HO_5.out (fun k_ hk => (⟨hk, hk.2⟩ : _ ∧ k_ ≠ gb282))) (fun _ hk => hk.2) (.slice Ao39 t273.length co39)) (fun _ hk => hk.2) (.string t276)) (fun _ hk => hk.2) (.int .i64 t277)) (fun _ hk => hk.2) (.slice Ao42 t278.length co42)) (fun _ h_ => h_.1))) (Kd.R_base ho1) hb); have n1_ := Aside0.mk (KB.R_below (by (with_reducible repeat (first | apply Kd.R_alloc | apply Kd.R_drewN | apply Kd.R_drew | apply KB.R_alloc | apply KB.R_drewN | apply KB.R_drew)); exact (KB.R_mono (KB.R_far (p := ⟨gb282, 3, none⟩) (KB.R_far (p := ⟨gb282, 2, none⟩) (KB.R_far (p := ⟨gb282, 1, none⟩) (KB.R_far (p := ⟨gb282, 0, none⟩) (KB.R_types HO_8.out BK282.out (by decide)) (fun _ hk => hk.2) (.slice Ao39 t273.length co39)) (fun _ hk => hk.2) (.string t276)) (fun _ hk => hk.2) (.int .i64 t277)) (fun _ hk => hk.2) (.slice Ao42 t278.length co42)) (fun _ h_ => h_.1))) hb); have n2_ := Aside0.mk (Kd.V_elder' (by (with_reducible repeat (first | apply Kd.V_alloc | apply Kd.V_drewN | apply Kd.V_drew)); exact (Kd.V_mono (Kd.V_far (p := ⟨gb282, 3, none⟩) (Kd.V_far (p := ⟨gb282, 2, none⟩) (Kd.V_far (p := ⟨gb282, 1, none⟩) (Kd.V_far (p := ⟨gb282, 0, none⟩) (Kd.V_mono HO275.out (fun k_ hk => (⟨hk, hk.2⟩ : _ ∧ k_ ≠ gb282))) (fun _ hk => hk.2) (.slice Ao39 t273.length co39)) (fun _ hk => hk.2) (.string t276)) (fun _ hk => hk.2) (.int .i64 t277)) (fun _ hk => hk.2) (.slice Ao42 t278.length co42)) (fun _ h_ => h_.1))) (Kd.R_base ho1) hb); have n3_ := Aside0.mk (Kd.R_elder' (by (with_reducible repeat (first | apply Kd.R_alloc | apply Kd.R_drewN | apply Kd.R_drew | apply KB.R_alloc | apply KB.R_drewN | apply KB.R_drew)); exact (Kd.R_mono (Kd.R_far (p := ⟨gb282, 3, none⟩) (Kd.R_far (p := ⟨gb282, 2, none⟩) (Kd.R_far (p := ⟨gb282, 1, none⟩) (Kd.R_far (p := ⟨gb282, 0, none⟩) (Kd.R_types HO280.out BK282.out (by decide)) (fun _ hk => hk.2) (.slice Ao39 t273.length co39)) (fun _ hk => hk.2) (.string t276)) (fun _ hk => hk.2) (.int .i64 t277)) (fun _ hk => hk.2) (.slice Ao42 t278.length co42)) (fun _ h_ => h_.1))) (Kd.R_base ho1) hb); have n4_ := Aside0.mk (Kd.V_lower (Kd.V_mono (ok' := fun k_ => some k_ ≠ (v289 : Value).ownBlock ∧ some k_ ≠ (.slice (some ad264) t261.length co11 : Value).ownBlock ∧ some k_ ≠ (.slice Ao35 x8_1.length co35 : Value).ownBlock ∧ some k_ ≠ (.slice Ao42 t278.length co42 : Value).ownBlock ∧ k_ ≠ gb265 ∧ k_ ≠ gb282) ho0 (fun k_ hk_ => ⟨hk_.2, (Kd.fresh' (Kd.N_lt (by (with_reducible repeat (first | apply Kd.N_alloc | apply Kd.N_drewN | apply Kd.N_drew)); exact (Kd.N_mono (Kd.N_far (p := ⟨gb282, 3, none⟩) (Kd.N_far (p := ⟨gb282, 2, none⟩) (Kd.N_far (p := ⟨gb282, 1, none⟩) (Kd.N_far (p := ⟨gb282, 0, none⟩) (Kd.N_mono HO_5.out (fun k_ hk => (⟨hk, hk.2⟩ : _ ∧ k_ ≠ gb282))) (fun _ hk => hk.2) (.slice Ao39 t273.length co39)) (fun _ hk => hk.2) (.string t276)) (fun _ hk => hk.2) (.int .i64 t277)) (fun _ hk => hk.2) (.slice Ao42 t278.length co42)) (fun _ h_ => h_.1)))) k_ hk_.1), (Kd.fresh' (KB.R_lt (by (with_reducible repeat (first | apply Kd.R_alloc | apply Kd.R_drewN | apply Kd.R_drew | apply KB.R_alloc | apply KB.R_drewN | apply KB.R_drew)); exact (KB.R_mono (KB.R_far (p := ⟨gb282, 3, none⟩) (KB.R_far (p := ⟨gb282, 2, none⟩) (KB.R_far (p := ⟨gb282, 1, none⟩) (KB.R_far (p := ⟨gb282, 0, none⟩) (KB.R_types HO_8.out BK282.out (by decide)) (fun _ hk => hk.2) (.slice Ao39 t273.length co39)) (fun _ hk => hk.2) (.string t276)) (fun _ hk => hk.2) (.int .i64 t277)) (fun _ hk => hk.2) (.slice Ao42 t278.length co42)) (fun _ h_ => h_.1)))) k_ hk_.1), (Kd.fresh' (Kd.R_lt (by (with_reducible repeat (first | apply Kd.R_alloc | apply Kd.R_drewN | apply Kd.R_drew | apply KB.R_alloc | apply KB.R_drewN | apply KB.R_drew)); exact (Kd.R_mono (Kd.R_far (p := ⟨gb282, 3, none⟩) (Kd.R_far (p := ⟨gb282, 2, none⟩) (Kd.R_far (p := ⟨gb282, 1, none⟩) (Kd.R_far (p := ⟨gb282, 0, none⟩) (Kd.R_types HO280.out BK282.out (by decide)) (fun _ hk => hk.2) (.slice Ao39 t273.length co39)) (fun _ hk => hk.2) (.string t276)) (fun _ hk => hk.2) (.int .i64 t277)) (fun _ hk => hk.2) (.slice Ao42 t278.length co42)) (fun _ h_ => h_.1)))) k_ hk_.1), (Kd.freshB (g := gb265) (o := .cells #[.slice A264_0 ((rd_T27 t261 (ji6)).f0).length c264_0, .string ((rd_T27 t261 (ji6)).f1), .int .i64 ((rd_T27 t261 (ji6)).f2), .slice A264_3 ((rd_T27 t261 (ji6)).f3).length c264_3] 27 (0, 0)) (by (with_reducible repeat (first | refine blk_drewN ?_ _ | refine blk_drew ?_ | refine blk_alloc ?_ _)); refine blk_far ?_ NB265_282.out _; (with_reducible repeat (first | refine blk_drewN ?_ _ | refine blk_drew ?_ | refine blk_alloc ?_ _)); refine blk_far ?_ NB265_282.out _; (with_reducible repeat (first | refine blk_drewN ?_ _ | refine blk_drew ?_ | refine blk_alloc ?_ _)); refine blk_far ?_ NB265_282.out _; (with_reducible repeat (first | refine blk_drewN ?_ _ | refine blk_drew ?_ | refine blk_alloc ?_ _)); refine blk_far ?_ NB265_282.out _; (with_reducible repeat (first | refine blk_drewN ?_ _ | refine blk_drew ?_ | refine blk_alloc ?_ _)); exact BK265.out) k_ hk_.1), (Kd.freshB (g := gb282) (o := .cells #[.slice Ao39 t273.length co39, .string t276, .int .i64 t277, .slice Ao42 t278.length co42] 27 (0, 0)) (by (with_reducible repeat (first | refine blk_drewN ?_ _ | refine blk_drew ?_ | refine blk_alloc ?_ _)); refine blk_put (cs := #[.slice Ao39 t273.length co39, .string t276, .int .i64 t277, .slice none 0 0]) ?_ 3 _ rfl; (with_reducible repeat (first | refine blk_drewN ?_ _ | refine blk_drew ?_ | refine blk_alloc ?_ _)); refine blk_put (cs := #[.slice Ao39 t273.length co39, .string t276, .int .i64 0, .slice none 0 0]) ?_ 2 _ rfl; (with_reducible repeat (first | refine blk_drewN ?_ _ | refine blk_drew ?_ | refine blk_alloc ?_ _)); refine blk_put (cs := #[.slice Ao39 t273.length co39, .string (⟨#[]⟩ : ByteArray), .int .i64 0, .slice none 0 0]) ?_ 1 _ rfl; (with_reducible repeat (first | refine blk_drewN ?_ _ | refine blk_drew ?_ | refine blk_alloc ?_ _)); refine blk_put (cs := #[.slice none 0 0, .string (⟨#[]⟩ : ByteArray), .int .i64 0, .slice none 0 0]) ?_ 0 _ rfl; (with_reducible repeat (first | refine blk_drewN ?_ _ | refine blk_drew ?_ | refine blk_alloc ?_ _)); exact BK282.out) k_ hk_.1)⟩)) (KB.bb_size (by repeat (first | (with_reducible first | exact HB.out | apply KB.bb_alloc | apply KB.bb_drewN | apply KB.bb_drew1 | refine KB.bb_set ?_ GE265.out | refine KB.bb_set ?_ GE282.out) | exact HB.out)))); have n5_ := Aside0.mk (Kd.R_lower (Kd.R_new' (Kd.R_mono (ok' := fun k_ => True) ho1 (fun _ hk_ => trivial)) (Kd.R_lt (by (with_reducible repeat (first | apply Kd.R_alloc | apply Kd.R_drewN | apply Kd.R_drew | apply KB.R_alloc | apply KB.R_drewN | apply KB.R_drew)); exact (Kd.R_mono (Kd.R_far (p := ⟨gb282, 3, none⟩) (Kd.R_far (p := ⟨gb282, 2, none⟩) (Kd.R_far (p := ⟨gb282, 1, none⟩) (Kd.R_far (p := ⟨gb282, 0, none⟩) (Kd.R_types HO280.out BK282.out (by decide)) (fun _ hk => hk.2) (.slice Ao39 t273.length co39)) (fun _ hk => hk.2) (.string t276)) (fun _ hk => hk.2) (.int .i64 t277)) (fun _ hk => hk.2) (.slice Ao42 t278.length co42)) (fun _ h_ => h_.1))))) (KB.bb_size (by repeat (first | (with_reducible first | exact HB.out | apply KB.bb_alloc | apply KB.bb_drewN | apply KB.bb_drew1 | refine KB.bb_set ?_ GE265.out | refine KB.bb_set ?_ GE282.out) | exact HB.out)))); have n6_ := Aside0.mk (blk_below (g := gb265) (o := .cells #[.slice A264_0 ((rd_T27 t261 (ji6)).f0).length c264_0, .string ((rd_T27 t261 (ji6)).f1), .int .i64 ((rd_T27 t261 (ji6)).f2), .slice A264_3 ((rd_T27 t261 (ji6)).f3).length c264_3] 27 (0, 0)) (by (with_reducible repeat (first | refine blk_drewN ?_ _ | refine blk_drew ?_ | refine blk_alloc ?_ _)); refine blk_far ?_ NB265_282.out _; (with_reducible repeat (first | refine blk_drewN ?_ _ | refine blk_drew ?_ | refine blk_alloc ?_ _)); refine blk_far ?_ NB265_282.out _; (with_reducible repeat (first | refine blk_drewN ?_ _ | refine blk_drew ?_ | refine blk_alloc ?_ _)); refine blk_far ?_ NB265_282.out _; (with_reducible repeat (first | refine blk_drewN ?_ _ | refine blk_drew ?_ | refine blk_alloc ?_ _)); refine blk_far ?_ NB265_282.out _; (with_reducible repeat (first | refine blk_drewN ?_ _ | refine blk_drew ?_ | refine blk_alloc ?_ _)); exact BK265.out) hb); have n7_ := Aside0.mk (blk_below (g := gb282) (o := .cells #[.slice Ao39 t273.length co39, .string t276, .int .i64 t277, .slice Ao42 t278.length co42] 27 (0, 0)) (by (with_reducible repeat (first | refine blk_drewN ?_ _ | refine blk_drew ?_ | refine blk_alloc ?_ _)); refine blk_put (cs := #[.slice Ao39 t273.length co39, .string t276, .int .i64 t277, .slice none 0 0]) ?_ 3 _ rfl; (with_reducible repeat (first | refine blk_drewN ?_ _ | refine blk_drew ?_ | refine blk_alloc ?_ _)); refine blk_put (cs := #[.slice Ao39 t273.length co39, .string t276, .int .i64 0, .slice none 0 0]) ?_ 2 _ rfl; (with_reducible repeat (first | refine blk_drewN ?_ _ | refine blk_drew ?_ | refine blk_alloc ?_ _)); refine blk_put (cs := #[.slice Ao39 t273.length co39, .string (⟨#[]⟩ : ByteArray), .int .i64 0, .slice none 0 0]) ?_ 1 _ rfl; (with_reducible repeat (first | refine blk_drewN ?_ _ | refine blk_drew ?_ | refine blk_alloc ?_ _)); refine blk_put (cs := #[.slice none 0 0, .string (⟨#[]⟩ : ByteArray), .int .i64 0, .slice none 0 0]) ?_ 0 _ rfl; (with_reducible repeat (first | refine blk_drewN ?_ _ | refine blk_drew ?_ | refine blk_alloc ?_ _)); exact BK282.out) hb); have n8_ := Aside0.mk (KB.bb_step (by repeat (first | (with_reducible first | exact HB.out | apply KB.bb_alloc | apply KB.bb_drewN | apply KB.bb_drew1 | refine KB.bb_set ?_ GE265.out | refine KB.bb_set ?_ GE282.out) | exact HB.out)) hb); clear HO_5; clear HO_8; clear HO275; clear HO280; clear BK265; clear BK282; clear HB; have HO_5 := n0_; have HO_8 := n1_; have HO275 := n2_; have HO280 := n3_; have HO285 := n4_; have HO290 := n5_; have BK265 := n6_; have BK282 := n7_; have HB := n8_; clear n0_ n1_ n2_ n3_ n4_ n5_ n6_ n7_ n8_; (try clear hb); (try clear hb2); (try clear hk); (try clear hi); (try clear ho0); (try clear ho1)) | ((with_reducible refine gate_dst (N := 12) rfl ?_); refine box_event ?hg (N := 12) ?hd (cs := #[.slice none 0 0, .string (⟨#[]⟩ : ByteArray), .int .i64 0, .slice none 0 0]) (t := 27) ?hr ?_; (case hd => rfl); (case hg => rfl); (case hr => first | (go_simp; done) | (go_simp; rfl)); intro gb292 hg w45 hbox hb; have n0_ := Aside0.mk (Kd.N_below (Kd.N_elderB (by (with_reducible repeat (first | apply Kd.N_alloc | apply Kd.N_drewN | apply Kd.N_drew)); exact HO_5.out) gb292 (Nat.le_of_eq hg.symm)) hb); have n1_ := Aside0.mk (KB.R_below (by (with_reducible repeat (first | apply Kd.R_alloc | apply Kd.R_drewN | apply Kd.R_drew | apply KB.R_alloc | apply KB.R_drewN | apply KB.R_drew)); exact HO_8.out) hb); have n2_ := Aside0.mk (Kd.V_below (Kd.V_elderB (by (with_reducible repeat (first | apply Kd.V_alloc | apply Kd.V_drewN | apply Kd.V_drew)); exact HO275.out) gb292 (Nat.le_of_eq hg.symm)) hb); have n3_ := Aside0.mk (Kd.R_below (by (with_reducible repeat (first | apply Kd.R_alloc | apply Kd.R_drewN | apply Kd.R_drew | apply KB.R_alloc | apply KB.R_drewN | apply KB.R_drew)); exact HO280.out) hb); have n4_ := Aside0.mk (Kd.V_below (Kd.V_elderB (by (with_reducible repeat (first | apply Kd.V_alloc | apply Kd.V_drewN | apply Kd.V_drew)); exact HO285.out) gb292 (Nat.le_of_eq hg.symm)) hb); have n5_ := Aside0.mk (Kd.R_below (by (with_reducible repeat (first | apply Kd.R_alloc | apply Kd.R_drewN | apply Kd.R_drew | apply KB.R_alloc | apply KB.R_drewN | apply KB.R_drew)); exact HO290.out) hb); have n6_ := Aside0.mk (blk_below (g := gb265) (o := .cells #[.slice A264_0 ((rd_T27 t261 (ji6)).f0).length c264_0, .string ((rd_T27 t261 (ji6)).f1), .int .i64 ((rd_T27 t261 (ji6)).f2), .slice A264_3 ((rd_T27 t261 (ji6)).f3).length c264_3] 27 (0, 0)) (by (with_reducible repeat (first | refine blk_drewN ?_ _ | refine blk_drew ?_ | refine blk_alloc ?_ _)); exact BK265.out) hb); have n7_ := Aside0.mk (blk_below (g := gb282) (o := .cells #[.slice Ao39 t273.length co39, .string t276, .int .i64 t277, .slice Ao42 t278.length co42] 27 (0, 0)) (by (with_reducible repeat (first | refine blk_drewN ?_ _ | refine blk_drew ?_ | refine blk_alloc ?_ _)); exact BK282.out) hb); have n8_ := Aside0.mk (KB.bb_step (by repeat (first | (with_reducible first | exact HB.out | apply KB.bb_alloc | apply KB.bb_drewN | apply KB.bb_drew1 | refine KB.bb_set ?_ GE265.out | refine KB.bb_set ?_ GE282.out) | exact HB.out)) hb); have n9_ := Aside0.mk (hbox); have n10_ := Aside0.mk ((by rw [hg]; exact (KB.bb_size2 (by repeat (first | (with_reducible first | exact HB.out | apply KB.bb_alloc | apply KB.bb_drewN | apply KB.bb_drew1 | refine KB.bb_set ?_ GE265.out | refine KB.bb_set ?_ GE282.out) | exact HB.out))) : KB.BG w wz gb292)); have n11_ := Aside0.mk ((by rw [hg]; exact (KB.bb_size2 (by repeat (first | (with_reducible first | exact HB.out | apply KB.bb_alloc | apply KB.bb_drewN | apply KB.bb_drew1 | refine KB.bb_set ?_ GE265.out | refine KB.bb_set ?_ GE282.out) | exact HB.out))) : KB.BG w wz gb292)); have n12_ := Aside0.mk ((by rw [hg]; exact Nat.ne_of_lt (blk_lt (g := gb265) (o := .cells #[.slice A264_0 ((rd_T27 t261 (ji6)).f0).length c264_0, .string ((rd_T27 t261 (ji6)).f1), .int .i64 ((rd_T27 t261 (ji6)).f2), .slice A264_3 ((rd_T27 t261 (ji6)).f3).length c264_3] 27 (0, 0)) (by (with_reducible repeat (first | refine blk_drewN ?_ _ | refine blk_drew ?_ | refine blk_alloc ?_ _)); exact BK265.out)) : gb265 ≠ gb292)); have n13_ := Aside0.mk ((by rw [hg]; exact Nat.ne_of_gt (blk_lt (g := gb265) (o := .cells #[.slice A264_0 ((rd_T27 t261 (ji6)).f0).length c264_0, .string ((rd_T27 t261 (ji6)).f1), .int .i64 ((rd_T27 t261 (ji6)).f2), .slice A264_3 ((rd_T27 t261 (ji6)).f3).length c264_3] 27 (0, 0)) (by (with_reducible repeat (first | refine blk_drewN ?_ _ | refine blk_drew ?_ | refine blk_alloc ?_ _)); exact BK265.out)) : gb292 ≠ gb265)); have n14_ := Aside0.mk ((by rw [hg]; exact Nat.ne_of_lt (blk_lt (g := gb282) (o := .cells #[.slice Ao39 t273.length co39, .string t276, .int .i64 t277, .slice Ao42 t278.length co42] 27 (0, 0)) (by (with_reducible repeat (first | refine blk_drewN ?_ _ | refine blk_drew ?_ | refine blk_alloc ?_ _)); exact BK282.out)) : gb282 ≠ gb292)); have n15_ := Aside0.mk ((by rw [hg]; exact Nat.ne_of_gt (blk_lt (g := gb282) (o := .cells #[.slice Ao39 t273.length co39, .string t276, .int .i64 t277, .slice Ao42 t278.length co42] 27 (0, 0)) (by (with_reducible repeat (first | refine blk_drewN ?_ _ | refine blk_drew ?_ | refine blk_alloc ?_ _)); exact BK282.out)) : gb292 ≠ gb282)); clear HO_5; clear HO_8; clear HO275; clear HO280; clear HO285; clear HO290; clear BK265; clear BK282; clear HB; have HO_5 := n0_; have HO_8 := n1_; have HO275 := n2_; have HO280 := n3_; have HO285 := n4_; have HO290 := n5_; have BK265 := n6_; have BK282 := n7_; have HB := n8_; have BK292 := n9_; have GW292 := n10_; have GE292 := n11_; have NB265_292 := n12_; have NB292_265 := n13_; have NB282_292 := n14_; have NB292_282 := n15_; clear n0_ n1_ n2_ n3_ n4_ n5_ n6_ n7_ n8_ n9_ n10_ n11_ n12_ n13_ n14_ n15_; clear hb hbox hg; obtain ⟨Ao46, co46, eo46⟩ := Kd.V_slice HO285.out; subst eo46; have hnb47 := NB292_265.out; have hnc47 := NB265_292.out; have hnb48 := NB292_282.out; have hnc48 := NB282_292.out; have hcz49_0 : w45.cell? ⟨gb292, 0, none⟩ = some (.slice none 0 0) := (blk_cell BK292.out 0).trans rfl; have hcz49_1 : w45.cell? ⟨gb292, 1, none⟩ = some (.string (⟨#[]⟩ : ByteArray)) := (blk_cell BK292.out 1).trans rfl; have hcz49_2 : w45.cell? ⟨gb292, 2, none⟩ = some (.int .i64 0) := (blk_cell BK292.out 2).trans rfl; have hcz49_3 : w45.cell? ⟨gb292, 3, none⟩ = some (.slice none 0 0) := (blk_cell BK292.out 3).trans rfl; have hfz49_0 := blk_frozen BK292.out 0; have hfz49_1 := blk_frozen BK292.out 1; have hfz49_2 := blk_frozen BK292.out 2; have hfz49_3 := blk_frozen BK292.out 3; obtain ⟨Ao50, co50, eo50⟩ := Kd.R_slice HO290.out; subst eo50; have hcz51_0 : w45.cell? ⟨gb265, 0, none⟩ = some (.slice A264_0 ((rd_T27 t261 (ji6)).f0).length c264_0) := (blk_cell BK265.out 0).trans rfl; have hcz51_1 : w45.cell? ⟨gb265, 1, none⟩ = some (.string ((rd_T27 t261 (ji6)).f1)) := (blk_cell BK265.out 1).trans rfl; have hcz51_2 : w45.cell? ⟨gb265, 2, none⟩ = some (.int .i64 ((rd_T27 t261 (ji6)).f2)) := (blk_cell BK265.out 2).trans rfl; have hcz51_3 : w45.cell? ⟨gb265, 3, none⟩ = some (.slice A264_3 ((rd_T27 t261 (ji6)).f3).length c264_3) := (blk_cell BK265.out 3).trans rfl; have hfz51_0 := blk_frozen BK265.out 0; have hfz51_1 := blk_frozen BK265.out 1; have hfz51_2 := blk_frozen BK265.out 2; have hfz51_3 := blk_frozen BK265.out 3) | ((with_reducible refine gate_callee (f := 9) rfl ?_); refine goesL_ (some 87) rfl rfl Try.func9 (by kernel_rfl) rfl #[.string (((rd_T27 t261 (ji6)).f1) ++ (⟨#[45]⟩ : ByteArray))] rfl (by (try simp only [List.map_toArray, List.map_cons, List.map_nil]); first | done | (simp only [hji6]; rfl) | rfl | (simp only [List.length_drop, List.length_take]; rfl)) ?_; (with_reducible refine (attr_ByName.calls k1 (((rd_T27 t261 (ji6)).f1) ++ (⟨#[45]⟩ : ByteArray)) t293 t296 t297 t298 t301 _ A34.out).mono ?_); rintro e w52 ⟨v294, v299, rfl, ho0, ho1, hb⟩; refine ⟨_, rfl, ?_⟩; have n0_ := Aside0.mk (Kd.N_elder' (by (with_reducible repeat (first | apply Kd.N_alloc | apply Kd.N_drewN | apply Kd.N_drew)); exact (Kd.N_mono (Kd.N_far (p := ⟨gb292, 3, none⟩) (Kd.N_far (p := ⟨gb292, 2, none⟩) (Kd.N_far (p := ⟨gb292, 1, none⟩) (Kd.N_far (p := ⟨gb292, 0, none⟩) (Kd.N_mono HO_5.out (fun k_ hk => (⟨hk, hk.2⟩ : _ ∧ k_ ≠ gb292))) (fun _ hk => hk.2) (.slice Ao46 t283.length co46)) (fun _ hk => hk.2) (.string t286)) (fun _ hk => hk.2) (.int .i64 t287)) (fun _ hk => hk.2) (.slice Ao50 t288.length co50)) (fun _ h_ => h_.1))) (Kd.R_base ho1) hb); have n1_ := Aside0.mk (KB.R_below (by (with_reducible repeat (first | apply Kd.R_alloc | apply Kd.R_drewN | apply Kd.R_drew | apply KB.R_alloc | apply KB.R_drewN | apply KB.R_drew)); exact (KB.R_mono (KB.R_far (p := ⟨gb292, 3, none⟩) (KB.R_far (p := ⟨gb292, 2, none⟩) (KB.R_far (p := ⟨gb292, 1, none⟩) (KB.R_far (p := ⟨gb292, 0, none⟩) (KB.R_types HO_8.out BK292.out (by decide)) (fun _ hk => hk.2) (.slice Ao46 t283.length co46)) (fun _ hk => hk.2) (.string t286)) (fun _ hk => hk.2) (.int .i64 t287)) (fun _ hk => hk.2) (.slice Ao50 t288.length co50)) (fun _ h_ => h_.1))) hb); have n2_ := Aside0.mk (Kd.V_elder' (by (with_reducible repeat (first | apply Kd.V_alloc | apply Kd.V_drewN | apply Kd.V_drew)); exact (Kd.V_mono (Kd.V_far (p := ⟨gb292, 3, none⟩) (Kd.V_far (p := ⟨gb292, 2, none⟩) (Kd.V_far (p := ⟨gb292, 1, none⟩) (Kd.V_far (p := ⟨gb292, 0, none⟩) (Kd.V_mono HO275.out (fun k_ hk => (⟨hk, hk.2⟩ : _ ∧ k_ ≠ gb292))) (fun _ hk => hk.2) (.slice Ao46 t283.length co46)) (fun _ hk => hk.2) (.string t286)) (fun _ hk => hk.2) (.int .i64 t287)) (fun _ hk => hk.2) (.slice Ao50 t288.length co50)) (fun _ h_ => h_.1))) (Kd.R_base ho1) hb); have n3_ := Aside0.mk (Kd.R_elder' (by (with_reducible repeat (first | apply Kd.R_alloc | apply Kd.R_drewN | apply Kd.R_drew | apply KB.R_alloc | apply KB.R_drewN | apply KB.R_drew)); exact (Kd.R_mono (Kd.R_far (p := ⟨gb292, 3, none⟩) (Kd.R_far (p := ⟨gb292, 2, none⟩) (Kd.R_far (p := ⟨gb292, 1, none⟩) (Kd.R_far (p := ⟨gb292, 0, none⟩) (Kd.R_types HO280.out BK292.out (by decide)) (fun _ hk => hk.2) (.slice Ao46 t283.length co46)) (fun _ hk => hk.2) (.string t286)) (fun _ hk => hk.2) (.int .i64 t287)) (fun _ hk => hk.2) (.slice Ao50 t288.length co50)) (fun _ h_ => h_.1))) (Kd.R_base ho1) hb); have n4_ := Aside0.mk (Kd.V_elder' (by (with_reducible repeat (first | apply Kd.V_alloc | apply Kd.V_drewN | apply Kd.V_drew)); exact (Kd.V_mono (Kd.V_far (p := ⟨gb292, 3, none⟩) (Kd.V_far (p := ⟨gb292, 2, none⟩) (Kd.V_far (p := ⟨gb292, 1, none⟩) (Kd.V_far (p := ⟨gb292, 0, none⟩) (Kd.V_mono HO285.out (fun k_ hk => (⟨hk, hk.2⟩ : _ ∧ k_ ≠ gb292))) (fun _ hk => hk.2) (.slice Ao46 t283.length co46)) (fun _ hk => hk.2) (.string t286)) (fun _ hk => hk.2) (.int .i64 t287)) (fun _ hk => hk.2) (.slice Ao50 t288.length co50)) (fun _ h_ => h_.1))) (Kd.R_base ho1) hb); have n5_ := Aside0.mk (Kd.R_elder' (by (with_reducible repeat (first | apply Kd.R_alloc | apply Kd.R_drewN | apply Kd.R_drew | apply KB.R_alloc | apply KB.R_drewN | apply KB.R_drew)); exact (Kd.R_mono (Kd.R_far (p := ⟨gb292, 3, none⟩) (Kd.R_far (p := ⟨gb292, 2, none⟩) (Kd.R_far (p := ⟨gb292, 1, none⟩) (Kd.R_far (p := ⟨gb292, 0, none⟩) (Kd.R_types HO290.out BK292.out (by decide)) (fun _ hk => hk.2) (.slice Ao46 t283.length co46)) (fun _ hk => hk.2) (.string t286)) (fun _ hk => hk.2) (.int .i64 t287)) (fun _ hk => hk.2) (.slice Ao50 t288.length co50)) (fun _ h_ => h_.1))) (Kd.R_base ho1) hb); have n6_ := Aside0.mk (Kd.V_lower (Kd.V_mono (ok' := fun k_ => some k_ ≠ (v299 : Value).ownBlock ∧ some k_ ≠ (.slice (some ad264) t261.length co11 : Value).ownBlock ∧ some k_ ≠ (.slice Ao35 x8_1.length co35 : Value).ownBlock ∧ some k_ ≠ (.slice Ao42 t278.length co42 : Value).ownBlock ∧ some k_ ≠ (.slice Ao50 t288.length co50 : Value).ownBlock ∧ k_ ≠ gb265 ∧ k_ ≠ gb282 ∧ k_ ≠ gb292) ho0 (fun k_ hk_ => ⟨hk_.2, (Kd.fresh' (Kd.N_lt (by (with_reducible repeat (first | apply Kd.N_alloc | apply Kd.N_drewN | apply Kd.N_drew)); exact (Kd.N_mono (Kd.N_far (p := ⟨gb292, 3, none⟩) (Kd.N_far (p := ⟨gb292, 2, none⟩) (Kd.N_far (p := ⟨gb292, 1, none⟩) (Kd.N_far (p := ⟨gb292, 0, none⟩) (Kd.N_mono HO_5.out (fun k_ hk => (⟨hk, hk.2⟩ : _ ∧ k_ ≠ gb292))) (fun _ hk => hk.2) (.slice Ao46 t283.length co46)) (fun _ hk => hk.2) (.string t286)) (fun _ hk => hk.2) (.int .i64 t287)) (fun _ hk => hk.2) (.slice Ao50 t288.length co50)) (fun _ h_ => h_.1)))) k_ hk_.1), (Kd.fresh' (KB.R_lt (by (with_reducible repeat (first | apply Kd.R_alloc | apply Kd.R_drewN | apply Kd.R_drew | apply KB.R_alloc | apply KB.R_drewN | apply KB.R_drew)); exact (KB.R_mono (KB.R_far (p := ⟨gb292, 3, none⟩) (KB.R_far (p := ⟨gb292, 2, none⟩) (KB.R_far (p := ⟨gb292, 1, none⟩) (KB.R_far (p := ⟨gb292, 0, none⟩) (KB.R_types HO_8.out BK292.out (by decide)) (fun _ hk => hk.2) (.slice Ao46 t283.length co46)) (fun _ hk => hk.2) (.string t286)) (fun _ hk => hk.2) (.int .i64 t287)) (fun _ hk => hk.2) (.slice Ao50 t288.length co50)) (fun _ h_ => h_.1)))) k_ hk_.1), (Kd.fresh' (Kd.R_lt (by (with_reducible repeat (first | apply Kd.R_alloc | apply Kd.R_drewN | apply Kd.R_drew | apply KB.R_alloc | apply KB.R_drewN | apply KB.R_drew)); exact (Kd.R_mono (Kd.R_far (p := ⟨gb292, 3, none⟩) (Kd.R_far (p := ⟨gb292, 2, none⟩) (Kd.R_far (p := ⟨gb292, 1, none⟩) (Kd.R_far (p := ⟨gb292, 0, none⟩) (Kd.R_types HO280.out BK292.out (by decide)) (fun _ hk => hk.2) (.slice Ao46 t283.length co46)) (fun _ hk => hk.2) (.string t286)) (fun _ hk => hk.2) (.int .i64 t287)) (fun _ hk => hk.2) (.slice Ao50 t288.length co50)) (fun _ h_ => h_.1)))) k_ hk_.1), (Kd.fresh' (Kd.R_lt (by (with_reducible repeat (first | apply Kd.R_alloc | apply Kd.R_drewN | apply Kd.R_drew | apply KB.R_alloc | apply KB.R_drewN | apply KB.R_drew)); exact (Kd.R_mono (Kd.R_far (p := ⟨gb292, 3, none⟩) (Kd.R_far (p := ⟨gb292, 2, none⟩) (Kd.R_far (p := ⟨gb292, 1, none⟩) (Kd.R_far (p := ⟨gb292, 0, none⟩) (Kd.R_types HO290.out BK292.out (by decide)) (fun _ hk => hk.2) (.slice Ao46 t283.length co46)) (fun _ hk => hk.2) (.string t286)) (fun _ hk => hk.2) (.int .i64 t287)) (fun _ hk => hk.2) (.slice Ao50 t288.length co50)) (fun _ h_ => h_.1)))) k_ hk_.1), (Kd.freshB (g := gb265) (o := .cells #[.slice A264_0 ((rd_T27 t261 (ji6)).f0).length c264_0, .string ((rd_T27 t261 (ji6)).f1), .int .i64 ((rd_T27 t261 (ji6)).f2), .slice A264_3 ((rd_T27 t261 (ji6)).f3).length c264_3] 27 (0, 0)) (by (with_reducible repeat (first | refine blk_drewN ?_ _ | refine blk_drew ?_ | refine blk_alloc ?_ _)); refine blk_far ?_ NB265_292.out _; (with_reducible repeat (first | refine blk_drewN ?_ _ | refine blk_drew ?_ | refine blk_alloc ?_ _)); refine blk_far ?_ NB265_292.out _; (with_reducible repeat (first | refine blk_drewN ?_ _ | refine blk_drew ?_ | refine blk_alloc ?_ _)); refine blk_far ?_ NB265_292.out _; (with_reducible repeat (first | refine blk_drewN ?_ _ | refine blk_drew ?_ | refine blk_alloc ?_ _)); refine blk_far ?_ NB265_292.out _; (with_reducible repeat (first | refine blk_drewN ?_ _ | refine blk_drew ?_ | refine blk_alloc ?_ _)); exact BK265.out) k_ hk_.1), (Kd.freshB (g := gb282) (o := .cells #[.slice Ao39 t273.length co39, .string t276, .int .i64 t277, .slice Ao42 t278.length co42] 27 (0, 0)) (by (with_reducible repeat (first | refine blk_drewN ?_ _ | refine blk_drew ?_ | refine blk_alloc ?_ _)); refine blk_far ?_ NB282_292.out _; (with_reducible repeat (first | refine blk_drewN ?_ _ | refine blk_drew ?_ | refine blk_alloc ?_ _)); refine blk_far ?_ NB282_292.out _; (with_reducible repeat (first | refine blk_drewN ?_ _ | refine blk_drew ?_ | refine blk_alloc ?_ _)); refine blk_far ?_ NB282_292.out _; (with_reducible repeat (first | refine blk_drewN ?_ _ | refine blk_drew ?_ | refine blk_alloc ?_ _)); refine blk_far ?_ NB282_292.out _; (with_reducible repeat (first | refine blk_drewN ?_ _ | refine blk_drew ?_ | refine blk_alloc ?_ _)); exact BK282.out) k_ hk_.1), (Kd.freshB (g := gb292) (o := .cells #[.slice Ao46 t283.length co46, .string t286, .int .i64 t287, .slice Ao50 t288.length co50] 27 (0, 0)) (by (with_reducible repeat (first | refine blk_drewN ?_ _ | refine blk_drew ?_ | refine blk_alloc ?_ _)); refine blk_put (cs := #[.slice Ao46 t283.length co46, .string t286, .int .i64 t287, .slice none 0 0]) ?_ 3 _ rfl; (with_reducible repeat (first | refine blk_drewN ?_ _ | refine blk_drew ?_ | refine blk_alloc ?_ _)); refine blk_put (cs := #[.slice Ao46 t283.length co46, .string t286, .int .i64 0, .slice none 0 0]) ?_ 2 _ rfl; (with_reducible repeat (first | refine blk_drewN ?_ _ | refine blk_drew ?_ | refine blk_alloc ?_ _)); refine blk_put (cs := #[.slice Ao46 t283.length co46, .string (⟨#[]⟩ : ByteArray), .int .i64 0, .slice none 0 0]) ?_ 1 _ rfl; (with_reducible repeat (first | refine blk_drewN ?_ _ | refine blk_drew ?_ | refine blk_alloc ?_ _)); refine blk_put (cs := #[.slice none 0 0, .string (⟨#[]⟩ : ByteArray), .int .i64 0, .slice none 0 0]) ?_ 0 _ rfl; (with_reducible repeat (first | refine blk_drewN ?_ _ | refine blk_drew ?_ | refine blk_alloc ?_ _)); exact BK292.out) k_ hk_.1)⟩)) (KB.bb_size (by repeat (first | (with_reducible first | exact HB.out | apply KB.bb_alloc | apply KB.bb_drewN | apply KB.bb_drew1 | refine KB.bb_set ?_ GE265.out | refine KB.bb_set ?_ GE282.out | refine KB.bb_set ?_ GE292.out) | exact HB.out)))); have n7_ := Aside0.mk (Kd.R_lower (Kd.R_new' (Kd.R_new' (Kd.R_mono (ok' := fun k_ => True) ho1 (fun _ hk_ => trivial)) (Kd.R_lt (by (with_reducible repeat (first | apply Kd.R_alloc | apply Kd.R_drewN | apply Kd.R_drew | apply KB.R_alloc | apply KB.R_drewN | apply KB.R_drew)); exact (Kd.R_mono (Kd.R_far (p := ⟨gb292, 3, none⟩) (Kd.R_far (p := ⟨gb292, 2, none⟩) (Kd.R_far (p := ⟨gb292, 1, none⟩) (Kd.R_far (p := ⟨gb292, 0, none⟩) (Kd.R_types HO280.out BK292.out (by decide)) (fun _ hk => hk.2) (.slice Ao46 t283.length co46)) (fun _ hk => hk.2) (.string t286)) (fun _ hk => hk.2) (.int .i64 t287)) (fun _ hk => hk.2) (.slice Ao50 t288.length co50)) (fun _ h_ => h_.1))))) (Kd.R_lt (by (with_reducible repeat (first | apply Kd.R_alloc | apply Kd.R_drewN | apply Kd.R_drew | apply KB.R_alloc | apply KB.R_drewN | apply KB.R_drew)); exact (Kd.R_mono (Kd.R_far (p := ⟨gb292, 3, none⟩) (Kd.R_far (p := ⟨gb292, 2, none⟩) (Kd.R_far (p := ⟨gb292, 1, none⟩) (Kd.R_far (p := ⟨gb292, 0, none⟩) (Kd.R_types HO290.out BK292.out (by decide)) (fun _ hk => hk.2) (.slice Ao46 t283.length co46)) (fun _ hk => hk.2) (.string t286)) (fun _ hk => hk.2) (.int .i64 t287)) (fun _ hk => hk.2) (.slice Ao50 t288.length co50)) (fun _ h_ => h_.1))))) (KB.bb_size (by repeat (first | (with_reducible first | exact HB.out | apply KB.bb_alloc | apply KB.bb_drewN | apply KB.bb_drew1 | refine KB.bb_set ?_ GE265.out | refine KB.bb_set ?_ GE282.out | refine KB.bb_set ?_ GE292.out) | exact HB.out)))); have n8_ := Aside0.mk (blk_below (g := gb265) (o := .cells #[.slice A264_0 ((rd_T27 t261 (ji6)).f0).length c264_0, .string ((rd_T27 t261 (ji6)).f1), .int .i64 ((rd_T27 t261 (ji6)).f2), .slice A264_3 ((rd_T27 t261 (ji6)).f3).length c264_3] 27 (0, 0)) (by (with_reducible repeat (first | refine blk_drewN ?_ _ | refine blk_drew ?_ | refine blk_alloc ?_ _)); refine blk_far ?_ NB265_292.out _; (with_reducible repeat (first | refine blk_drewN ?_ _ | refine blk_drew ?_ | refine blk_alloc ?_ _)); refine blk_far ?_ NB265_292.out _; (with_reducible repeat (first | refine blk_drewN ?_ _ | refine blk_drew ?_ | refine blk_alloc ?_ _)); refine blk_far ?_ NB265_292.out _; (with_reducible repeat (first | refine blk_drewN ?_ _ | refine blk_drew ?_ | refine blk_alloc ?_ _)); refine blk_far ?_ NB265_292.out _; (with_reducible repeat (first | refine blk_drewN ?_ _ | refine blk_drew ?_ | refine blk_alloc ?_ _)); exact BK265.out) hb); have n9_ := Aside0.mk (blk_below (g := gb282) (o := .cells #[.slice Ao39 t273.length co39, .string t276, .int .i64 t277, .slice Ao42 t278.length co42] 27 (0, 0)) (by (with_reducible repeat (first | refine blk_drewN ?_ _ | refine blk_drew ?_ | refine blk_alloc ?_ _)); refine blk_far ?_ NB282_292.out _; (with_reducible repeat (first | refine blk_drewN ?_ _ | refine blk_drew ?_ | refine blk_alloc ?_ _)); refine blk_far ?_ NB282_292.out _; (with_reducible repeat (first | refine blk_drewN ?_ _ | refine blk_drew ?_ | refine blk_alloc ?_ _)); refine blk_far ?_ NB282_292.out _; (with_reducible repeat (first | refine blk_drewN ?_ _ | refine blk_drew ?_ | refine blk_alloc ?_ _)); refine blk_far ?_ NB282_292.out _; (with_reducible repeat (first | refine blk_drewN ?_ _ | refine blk_drew ?_ | refine blk_alloc ?_ _)); exact BK282.out) hb); have n10_ := Aside0.mk (blk_below (g := gb292) (o := .cells #[.slice Ao46 t283.length co46, .string t286, .int .i64 t287, .slice Ao50 t288.length co50] 27 (0, 0)) (by (with_reducible repeat (first | refine blk_drewN ?_ _ | refine blk_drew ?_ | refine blk_alloc ?_ _)); refine blk_put (cs := #[.slice Ao46 t283.length co46, .string t286, .int .i64 t287, .slice none 0 0]) ?_ 3 _ rfl; (with_reducible repeat (first | refine blk_drewN ?_ _ | refine blk_drew ?_ | refine blk_alloc ?_ _)); refine blk_put (cs := #[.slice Ao46 t283.length co46, .string t286, .int .i64 0, .slice none 0 0]) ?_ 2 _ rfl; (with_reducible repeat (first | refine blk_drewN ?_ _ | refine blk_drew ?_ | refine blk_alloc ?_ _)); refine blk_put (cs := #[.slice Ao46 t283.length co46, .string (⟨#[]⟩ : ByteArray), .int .i64 0, .slice none 0 0]) ?_ 1 _ rfl; (with_reducible repeat (first | refine blk_drewN ?_ _ | refine blk_drew ?_ | refine blk_alloc ?_ _)); refine blk_put (cs := #[.slice none 0 0, .string (⟨#[]⟩ : ByteArray), .int .i64 0, .slice none 0 0]) ?_ 0 _ rfl; (with_reducible repeat (first | refine blk_drewN ?_ _ | refine blk_drew ?_ | refine blk_alloc ?_ _)); exact BK292.out) hb); have n11_ := Aside0.mk (KB.bb_step (by repeat (first | (with_reducible first | exact HB.out | apply KB.bb_alloc | apply KB.bb_drewN | apply KB.bb_drew1 | refine KB.bb_set ?_ GE265.out | refine KB.bb_set ?_ GE282.out | refine KB.bb_set ?_ GE292.out) | exact HB.out)) hb); clear HO_5; clear HO_8; clear HO275; clear HO280; clear HO285; clear HO290; clear BK265; clear BK282; clear BK292; clear HB; have HO_5 := n0_; have HO_8 := n1_; have HO275 := n2_; have HO280 := n3_; have HO285 := n4_; have HO290 := n5_; have HO295 := n6_; have HO300 := n7_; have BK265 := n8_; have BK282 := n9_; have BK292 := n10_; have HB := n11_; clear n0_ n1_ n2_ n3_ n4_ n5_ n6_ n7_ n8_ n9_ n10_ n11_; (try clear hb); (try clear hb2); (try clear hk); (try clear hi); (try clear ho0); (try clear ho1)) | ((with_reducible refine gate_dst (N := 14) rfl ?_); refine box_event ?hg (N := 14) ?hd (cs := #[.slice none 0 0, .string (⟨#[]⟩ : ByteArray), .int .i64 0, .slice none 0 0]) (t := 27) ?hr ?_; (case hd => rfl); (case hg => rfl); (case hr => first | (go_simp; done) | (go_simp; rfl)); intro gb302 hg w53 hbox hb; have n0_ := Aside0.mk (Kd.N_below (Kd.N_elderB (by (with_reducible repeat (first | apply Kd.N_alloc | apply Kd.N_drewN | apply Kd.N_drew)); exact HO_5.out) gb302 (Nat.le_of_eq hg.symm)) hb); have n1_ := Aside0.mk (KB.R_below (by (with_reducible repeat (first | apply Kd.R_alloc | apply Kd.R_drewN | apply Kd.R_drew | apply KB.R_alloc | apply KB.R_drewN | apply KB.R_drew)); exact HO_8.out) hb); have n2_ := Aside0.mk (Kd.V_below (Kd.V_elderB (by (with_reducible repeat (first | apply Kd.V_alloc | apply Kd.V_drewN | apply Kd.V_drew)); exact HO275.out) gb302 (Nat.le_of_eq hg.symm)) hb); have n3_ := Aside0.mk (Kd.R_below (by (with_reducible repeat (first | apply Kd.R_alloc | apply Kd.R_drewN | apply Kd.R_drew | apply KB.R_alloc | apply KB.R_drewN | apply KB.R_drew)); exact HO280.out) hb); have n4_ := Aside0.mk (Kd.V_below (Kd.V_elderB (by (with_reducible repeat (first | apply Kd.V_alloc | apply Kd.V_drewN | apply Kd.V_drew)); exact HO285.out) gb302 (Nat.le_of_eq hg.symm)) hb); have n5_ := Aside0.mk (Kd.R_below (by (with_reducible repeat (first | apply Kd.R_alloc | apply Kd.R_drewN | apply Kd.R_drew | apply KB.R_alloc | apply KB.R_drewN | apply KB.R_drew)); exact HO290.out) hb); have n6_ := Aside0.mk (Kd.V_below (Kd.V_elderB (by (with_reducible repeat (first | apply Kd.V_alloc | apply Kd.V_drewN | apply Kd.V_drew)); exact HO295.out) gb302 (Nat.le_of_eq hg.symm)) hb); have n7_ := Aside0.mk (Kd.R_below (by (with_reducible repeat (first | apply Kd.R_alloc | apply Kd.R_drewN | apply Kd.R_drew | apply KB.R_alloc | apply KB.R_drewN | apply KB.R_drew)); exact HO300.out) hb); have n8_ := Aside0.mk (blk_below (g := gb265) (o := .cells #[.slice A264_0 ((rd_T27 t261 (ji6)).f0).length c264_0, .string ((rd_T27 t261 (ji6)).f1), .int .i64 ((rd_T27 t261 (ji6)).f2), .slice A264_3 ((rd_T27 t261 (ji6)).f3).length c264_3] 27 (0, 0)) (by (with_reducible repeat (first | refine blk_drewN ?_ _ | refine blk_drew ?_ | refine blk_alloc ?_ _)); exact BK265.out) hb); have n9_ := Aside0.mk (blk_below (g := gb282) (o := .cells #[.slice Ao39 t273.length co39, .string t276, .int .i64 t277, .slice Ao42 t278.length co42] 27 (0, 0)) (by (with_reducible repeat (first | refine blk_drewN ?_ _ | refine blk_drew ?_ | refine blk_alloc ?_ _)); exact BK282.out) hb); have n10_ := Aside0.mk (blk_below (g := gb292) (o := .cells #[.slice Ao46 t283.length co46, .string t286, .int .i64 t287, .slice Ao50 t288.length co50] 27 (0, 0)) (by (with_reducible repeat (first | refine blk_drewN ?_ _ | refine blk_drew ?_ | refine blk_alloc ?_ _)); exact BK292.out) hb); have n11_ := Aside0.mk (KB.bb_step (by repeat (first | (with_reducible first | exact HB.out | apply KB.bb_alloc | apply KB.bb_drewN | apply KB.bb_drew1 | refine KB.bb_set ?_ GE265.out | refine KB.bb_set ?_ GE282.out | refine KB.bb_set ?_ GE292.out) | exact HB.out)) hb); have n12_ := Aside0.mk (hbox); have n13_ := Aside0.mk ((by rw [hg]; exact (KB.bb_size2 (by repeat (first | (with_reducible first | exact HB.out | apply KB.bb_alloc | apply KB.bb_drewN | apply KB.bb_drew1 | refine KB.bb_set ?_ GE265.out | refine KB.bb_set ?_ GE282.out | refine KB.bb_set ?_ GE292.out) | exact HB.out))) : KB.BG w wz gb302)); have n14_ := Aside0.mk ((by rw [hg]; exact (KB.bb_size2 (by repeat (first | (with_reducible first | exact HB.out | apply KB.bb_alloc | apply KB.bb_drewN | apply KB.bb_drew1 | refine KB.bb_set ?_ GE265.out | refine KB.bb_set ?_ GE282.out | refine KB.bb_set ?_ GE292.out) | exact HB.out))) : KB.BG w wz gb302)); have n15_ := Aside0.mk ((by rw [hg]; exact Nat.ne_of_lt (blk_lt (g := gb265) (o := .cells #[.slice A264_0 ((rd_T27 t261 (ji6)).f0).length c264_0, .string ((rd_T27 t261 (ji6)).f1), .int .i64 ((rd_T27 t261 (ji6)).f2), .slice A264_3 ((rd_T27 t261 (ji6)).f3).length c264_3] 27 (0, 0)) (by (with_reducible repeat (first | refine blk_drewN ?_ _ | refine blk_drew ?_ | refine blk_alloc ?_ _)); exact BK265.out)) : gb265 ≠ gb302)); have n16_ := Aside0.mk ((by rw [hg]; exact Nat.ne_of_gt (blk_lt (g := gb265) (o := .cells #[.slice A264_0 ((rd_T27 t261 (ji6)).f0).length c264_0, .string ((rd_T27 t261 (ji6)).f1), .int .i64 ((rd_T27 t261 (ji6)).f2), .slice A264_3 ((rd_T27 t261 (ji6)).f3).length c264_3] 27 (0, 0)) (by (with_reducible repeat (first | refine blk_drewN ?_ _ | refine blk_drew ?_ | refine blk_alloc ?_ _)); exact BK265.out)) : gb302 ≠ gb265)); have n17_ := Aside0.mk ((by rw [hg]; exact Nat.ne_of_lt (blk_lt (g := gb282) (o := .cells #[.slice Ao39 t273.length co39, .string t276, .int .i64 t277, .slice Ao42 t278.length co42] 27 (0, 0)) (by (with_reducible repeat (first | refine blk_drewN ?_ _ | refine blk_drew ?_ | refine blk_alloc ?_ _)); exact BK282.out)) : gb282 ≠ gb302)); have n18_ := Aside0.mk ((by rw [hg]; exact Nat.ne_of_gt (blk_lt (g := gb282) (o := .cells #[.slice Ao39 t273.length co39, .string t276, .int .i64 t277, .slice Ao42 t278.length co42] 27 (0, 0)) (by (with_reducible repeat (first | refine blk_drewN ?_ _ | refine blk_drew ?_ | refine blk_alloc ?_ _)); exact BK282.out)) : gb302 ≠ gb282)); have n19_ := Aside0.mk ((by rw [hg]; exact Nat.ne_of_lt (blk_lt (g := gb292) (o := .cells #[.slice Ao46 t283.length co46, .string t286, .int .i64 t287, .slice Ao50 t288.length co50] 27 (0, 0)) (by (with_reducible repeat (first | refine blk_drewN ?_ _ | refine blk_drew ?_ | refine blk_alloc ?_ _)); exact BK292.out)) : gb292 ≠ gb302)); have n20_ := Aside0.mk ((by rw [hg]; exact Nat.ne_of_gt (blk_lt (g := gb292) (o := .cells #[.slice Ao46 t283.length co46, .string t286, .int .i64 t287, .slice Ao50 t288.length co50] 27 (0, 0)) (by (with_reducible repeat (first | refine blk_drewN ?_ _ | refine blk_drew ?_ | refine blk_alloc ?_ _)); exact BK292.out)) : gb302 ≠ gb292)); clear HO_5; clear HO_8; clear HO275; clear HO280; clear HO285; clear HO290; clear HO295; clear HO300; clear BK265; clear BK282; clear BK292; clear HB; have HO_5 := n0_; have HO_8 := n1_; have HO275 := n2_; have HO280 := n3_; have HO285 := n4_; have HO290 := n5_; have HO295 := n6_; have HO300 := n7_; have BK265 := n8_; have BK282 := n9_; have BK292 := n10_; have HB := n11_; have BK302 := n12_; have GW302 := n13_; have GE302 := n14_; have NB265_302 := n15_; have NB302_265 := n16_; have NB282_302 := n17_; have NB302_282 := n18_; have NB292_302 := n19_; have NB302_292 := n20_; clear n0_ n1_ n2_ n3_ n4_ n5_ n6_ n7_ n8_ n9_ n10_ n11_ n12_ n13_ n14_ n15_ n16_ n17_ n18_ n19_ n20_; clear hb hbox hg; obtain ⟨Ao54, co54, eo54⟩ := Kd.V_slice HO295.out; subst eo54; have hnb55 := NB302_265.out; have hnc55 := NB265_302.out; have hnb56 := NB302_282.out; have hnc56 := NB282_302.out; have hnb57 := NB302_292.out; have hnc57 := NB292_302.out; have hcz58_0 : w53.cell? ⟨gb302, 0, none⟩ = some (.slice none 0 0) := (blk_cell BK302.out 0).trans rfl; have hcz58_1 : w53.cell? ⟨gb302, 1, none⟩ = some (.string (⟨#[]⟩ : ByteArray)) := (blk_cell BK302.out 1).trans rfl; have hcz58_2 : w53.cell? ⟨gb302, 2, none⟩ = some (.int .i64 0) := (blk_cell BK302.out 2).trans rfl; have hcz58_3 : w53.cell? ⟨gb302, 3, none⟩ = some (.slice none 0 0) := (blk_cell BK302.out 3).trans rfl; have hfz58_0 := blk_frozen BK302.out 0; have hfz58_1 := blk_frozen BK302.out 1; have hfz58_2 := blk_frozen BK302.out 2; have hfz58_3 := blk_frozen BK302.out 3; obtain ⟨Ao59, co59, eo59⟩ := Kd.R_slice HO300.out; subst eo59))
                    go_loopg [16] k1 (fun kq v16 w' => ∃ (x16_2 : Int), v16 = .int .i64 x16_2 ∧ Aside0 (sobriquetlaw22_AttrNames.l1 kq t261 ji6 t281 t291 t301 x16_2 ((rd_T27 t261 (ji6)).f0) ((rd_T27 t261 (ji6)).f1) ((rd_T27 t261 (ji6)).f2) ((rd_T27 t261 (ji6)).f3) t273 t276 t277 t278 t283 t286 t287 t288 = some r) ∧ Aside0 (kq ≤ k1) ∧ Aside0 (Kd.N k27 27 w' w.heap.size (fun k_ => some k_ ≠ ((.slice Ao42 t278.length co42) : Value).ownBlock ∧ some k_ ≠ ((.slice Ao50 t288.length co50) : Value).ownBlock ∧ some k_ ≠ ((.slice Ao59 t298.length co59) : Value).ownBlock ∧ k_ ≠ gb265 ∧ k_ ≠ gb282 ∧ k_ ≠ gb292 ∧ k_ ≠ gb302) (.slice (some ad264) t261.length co11) t261) ∧ Aside0 (Kd.V (Kd.int .i64) 3 w' w.heap.size (fun k_ => some k_ ≠ ((.slice (some ad264) t261.length co11) : Value).ownBlock ∧ some k_ ≠ ((.slice Ao42 t278.length co42) : Value).ownBlock ∧ some k_ ≠ ((.slice Ao50 t288.length co50) : Value).ownBlock ∧ some k_ ≠ ((.slice Ao59 t298.length co59) : Value).ownBlock ∧ k_ ≠ gb265 ∧ k_ ≠ gb282 ∧ k_ ≠ gb292 ∧ k_ ≠ gb302) (.slice Ao39 t273.length co39) t273) ∧ Aside0 (Kd.R (Kd.int .i64) 3 w' w.heap.size (fun k_ => some k_ ≠ ((.slice Ao50 t288.length co50) : Value).ownBlock ∧ some k_ ≠ ((.slice Ao59 t298.length co59) : Value).ownBlock) (.slice Ao42 t278.length co42) t278) ∧ Aside0 (Kd.V (Kd.int .i64) 3 w' w.heap.size (fun k_ => some k_ ≠ ((.slice (some ad264) t261.length co11) : Value).ownBlock ∧ some k_ ≠ ((.slice Ao42 t278.length co42) : Value).ownBlock ∧ some k_ ≠ ((.slice Ao50 t288.length co50) : Value).ownBlock ∧ some k_ ≠ ((.slice Ao59 t298.length co59) : Value).ownBlock ∧ k_ ≠ gb265 ∧ k_ ≠ gb282 ∧ k_ ≠ gb292 ∧ k_ ≠ gb302) (.slice Ao46 t283.length co46) t283) ∧ Aside0 (Kd.R (Kd.int .i64) 3 w' w.heap.size (fun k_ => some k_ ≠ ((.slice Ao42 t278.length co42) : Value).ownBlock ∧ some k_ ≠ ((.slice Ao59 t298.length co59) : Value).ownBlock) (.slice Ao50 t288.length co50) t288) ∧ Aside0 (Kd.V (Kd.int .i64) 3 w' w.heap.size (fun k_ => some k_ ≠ ((.slice (some ad264) t261.length co11) : Value).ownBlock ∧ some k_ ≠ ((.slice Ao42 t278.length co42) : Value).ownBlock ∧ some k_ ≠ ((.slice Ao50 t288.length co50) : Value).ownBlock ∧ some k_ ≠ ((.slice Ao59 t298.length co59) : Value).ownBlock ∧ k_ ≠ gb265 ∧ k_ ≠ gb282 ∧ k_ ≠ gb292 ∧ k_ ≠ gb302) (.slice Ao54 t293.length co54) t293) ∧ Aside0 (Kd.R (Kd.int .i64) 3 w' w.heap.size (fun k_ => some k_ ≠ ((.slice Ao42 t278.length co42) : Value).ownBlock ∧ some k_ ≠ ((.slice Ao50 t288.length co50) : Value).ownBlock) (.slice Ao59 t298.length co59) t298) ∧ Aside0 (w'.heap[gb265]? = some (.cells #[(.slice A264_0 ((rd_T27 t261 (ji6)).f0).length c264_0), .string ((rd_T27 t261 (ji6)).f1), .int .i64 ((rd_T27 t261 (ji6)).f2), (.slice A264_3 ((rd_T27 t261 (ji6)).f3).length c264_3)] 27 (0, 0))) ∧ Aside0 (w'.heap[gb282]? = some (.cells #[(.slice Ao39 t273.length co39), .string t276, .int .i64 t277, (.slice Ao42 t278.length co42)] 27 (0, 0))) ∧ Aside0 (w'.heap[gb292]? = some (.cells #[(.slice Ao46 t283.length co46), .string t286, .int .i64 t287, (.slice Ao50 t288.length co50)] 27 (0, 0))) ∧ Aside0 (w'.heap[gb302]? = some (.cells #[(.slice Ao54 t293.length co54), .string t296, .int .i64 t297, (.slice Ao59 t298.length co59)] 27 (0, 0))) ∧ Aside0 (KB.BB w wz w'))
                    case atStart => exact ⟨(0), (by first | rfl | (simp; done) | (simp [*]; done)), H', ⟨Nat.le_refl _⟩, ⟨by (with_reducible repeat (first | apply Kd.N_alloc | apply Kd.N_drewN | apply Kd.N_drew)); exact Kd.N_mono (Kd.N_far (p := ⟨gb302, 3, none⟩) (Kd.N_far (p := ⟨gb302, 2, none⟩) (Kd.N_far (p := ⟨gb302, 1, none⟩) (Kd.N_far (p := ⟨gb302, 0, none⟩) (Kd.N_mono HO_5.out (fun k_ hk => (⟨hk, hk.2⟩ : _ ∧ k_ ≠ gb302))) (fun _ hk => hk.2) (.slice Ao54 t293.length co54)) (fun _ hk => hk.2) (.string t296)) (fun _ hk => hk.2) (.int .i64 t297)) (fun _ hk => hk.2) (.slice Ao59 t298.length co59)) (fun _ hk => ⟨hk.1.1.1.1.1.1.2, ⟨hk.1.1.1.1.2, ⟨hk.1.1.2, ⟨hk.1.1.1.1.1.1.1.2, ⟨hk.1.1.1.1.1.2, ⟨hk.1.1.1.2, hk.1.2⟩⟩⟩⟩⟩⟩)⟩, ⟨by (with_reducible repeat (first | apply Kd.V_alloc | apply Kd.V_drewN | apply Kd.V_drew)); exact Kd.V_mono (Kd.V_far (p := ⟨gb302, 3, none⟩) (Kd.V_far (p := ⟨gb302, 2, none⟩) (Kd.V_far (p := ⟨gb302, 1, none⟩) (Kd.V_far (p := ⟨gb302, 0, none⟩) (Kd.V_mono HO275.out (fun k_ hk => (⟨hk, hk.2⟩ : _ ∧ k_ ≠ gb302))) (fun _ hk => hk.2) (.slice Ao54 t293.length co54)) (fun _ hk => hk.2) (.string t296)) (fun _ hk => hk.2) (.int .i64 t297)) (fun _ hk => hk.2) (.slice Ao59 t298.length co59)) (fun _ hk => ⟨hk.1.1.1.1.1.1.2.1, ⟨hk.1.1.1.1.1.1.1, ⟨hk.1.1.1.1.2, ⟨hk.1.1.2, ⟨hk.1.1.1.1.1.1.2.2.2, ⟨hk.1.1.1.1.1.2, ⟨hk.1.1.1.2, hk.1.2⟩⟩⟩⟩⟩⟩⟩)⟩, ⟨by (with_reducible repeat (first | apply Kd.R_alloc | apply Kd.R_drewN | apply Kd.R_drew | apply KB.R_alloc | apply KB.R_drewN | apply KB.R_drew)); exact Kd.R_mono (Kd.R_far (p := ⟨gb302, 3, none⟩) (Kd.R_far (p := ⟨gb302, 2, none⟩) (Kd.R_far (p := ⟨gb302, 1, none⟩) (Kd.R_far (p := ⟨gb302, 0, none⟩) (Kd.R_types HO280.out BK302.out (by decide)) (fun _ hk => hk.2) (.slice Ao54 t293.length co54)) (fun _ hk => hk.2) (.string t296)) (fun _ hk => hk.2) (.int .i64 t297)) (fun _ hk => hk.2) (.slice Ao59 t298.length co59)) (fun _ hk => ⟨hk.1.1.2, hk.1.2⟩)⟩, ⟨by (with_reducible repeat (first | apply Kd.V_alloc | apply Kd.V_drewN | apply Kd.V_drew)); exact Kd.V_mono (Kd.V_far (p := ⟨gb302, 3, none⟩) (Kd.V_far (p := ⟨gb302, 2, none⟩) (Kd.V_far (p := ⟨gb302, 1, none⟩) (Kd.V_far (p := ⟨gb302, 0, none⟩) (Kd.V_mono HO285.out (fun k_ hk => (⟨hk, hk.2⟩ : _ ∧ k_ ≠ gb302))) (fun _ hk => hk.2) (.slice Ao54 t293.length co54)) (fun _ hk => hk.2) (.string t296)) (fun _ hk => hk.2) (.int .i64 t297)) (fun _ hk => hk.2) (.slice Ao59 t298.length co59)) (fun _ hk => ⟨hk.1.1.1.1.2.1, ⟨hk.1.1.1.1.2.2.2.1, ⟨hk.1.1.1.1.1, ⟨hk.1.1.2, ⟨hk.1.1.1.1.2.2.2.2.1, ⟨hk.1.1.1.1.2.2.2.2.2, ⟨hk.1.1.1.2, hk.1.2⟩⟩⟩⟩⟩⟩⟩)⟩, ⟨by (with_reducible repeat (first | apply Kd.R_alloc | apply Kd.R_drewN | apply Kd.R_drew | apply KB.R_alloc | apply KB.R_drewN | apply KB.R_drew)); exact Kd.R_mono (Kd.R_far (p := ⟨gb302, 3, none⟩) (Kd.R_far (p := ⟨gb302, 2, none⟩) (Kd.R_far (p := ⟨gb302, 1, none⟩) (Kd.R_far (p := ⟨gb302, 0, none⟩) (Kd.R_types HO290.out BK302.out (by decide)) (fun _ hk => hk.2) (.slice Ao54 t293.length co54)) (fun _ hk => hk.2) (.string t296)) (fun _ hk => hk.2) (.int .i64 t297)) (fun _ hk => hk.2) (.slice Ao59 t298.length co59)) (fun _ hk => ⟨hk.1.1.2, hk.1.2⟩)⟩, ⟨by (with_reducible repeat (first | apply Kd.V_alloc | apply Kd.V_drewN | apply Kd.V_drew)); exact Kd.V_mono (Kd.V_far (p := ⟨gb302, 3, none⟩) (Kd.V_far (p := ⟨gb302, 2, none⟩) (Kd.V_far (p := ⟨gb302, 1, none⟩) (Kd.V_far (p := ⟨gb302, 0, none⟩) (Kd.V_mono HO295.out (fun k_ hk => (⟨hk, hk.2⟩ : _ ∧ k_ ≠ gb302))) (fun _ hk => hk.2) (.slice Ao54 t293.length co54)) (fun _ hk => hk.2) (.string t296)) (fun _ hk => hk.2) (.int .i64 t297)) (fun _ hk => hk.2) (.slice Ao59 t298.length co59)) (fun _ hk => ⟨hk.1.1.2.1, ⟨hk.1.1.2.2.2.1, ⟨hk.1.1.2.2.2.2.1, ⟨hk.1.1.1, ⟨hk.1.1.2.2.2.2.2.1, ⟨hk.1.1.2.2.2.2.2.2.1, ⟨hk.1.1.2.2.2.2.2.2.2, hk.1.2⟩⟩⟩⟩⟩⟩⟩)⟩, ⟨by (with_reducible repeat (first | apply Kd.R_alloc | apply Kd.R_drewN | apply Kd.R_drew | apply KB.R_alloc | apply KB.R_drewN | apply KB.R_drew)); exact Kd.R_mono (Kd.R_far (p := ⟨gb302, 3, none⟩) (Kd.R_far (p := ⟨gb302, 2, none⟩) (Kd.R_far (p := ⟨gb302, 1, none⟩) (Kd.R_far (p := ⟨gb302, 0, none⟩) (Kd.R_types HO300.out BK302.out (by decide)) (fun _ hk => hk.2) (.slice Ao54 t293.length co54)) (fun _ hk => hk.2) (.string t296)) (fun _ hk => hk.2) (.int .i64 t297)) (fun _ hk => hk.2) (.slice Ao59 t298.length co59)) (fun _ hk => ⟨hk.1.1.2, hk.1.2⟩)⟩, ⟨by (with_reducible repeat (first | refine blk_drewN ?_ _ | refine blk_drew ?_ | refine blk_alloc ?_ _)); refine blk_far ?_ NB265_302.out _; (with_reducible repeat (first | refine blk_drewN ?_ _ | refine blk_drew ?_ | refine blk_alloc ?_ _)); refine blk_far ?_ NB265_302.out _; (with_reducible repeat (first | refine blk_drewN ?_ _ | refine blk_drew ?_ | refine blk_alloc ?_ _)); refine blk_far ?_ NB265_302.out _; (with_reducible repeat (first | refine blk_drewN ?_ _ | refine blk_drew ?_ | refine blk_alloc ?_ _)); refine blk_far ?_ NB265_302.out _; (with_reducible repeat (first | refine blk_drewN ?_ _ | refine blk_drew ?_ | refine blk_alloc ?_ _)); exact BK265.out⟩, ⟨by (with_reducible repeat (first | refine blk_drewN ?_ _ | refine blk_drew ?_ | refine blk_alloc ?_ _)); refine blk_far ?_ NB282_302.out _; (with_reducible repeat (first | refine blk_drewN ?_ _ | refine blk_drew ?_ | refine blk_alloc ?_ _)); refine blk_far ?_ NB282_302.out _; (with_reducible repeat (first | refine blk_drewN ?_ _ | refine blk_drew ?_ | refine blk_alloc ?_ _)); refine blk_far ?_ NB282_302.out _; (with_reducible repeat (first | refine blk_drewN ?_ _ | refine blk_drew ?_ | refine blk_alloc ?_ _)); refine blk_far ?_ NB282_302.out _; (with_reducible repeat (first | refine blk_drewN ?_ _ | refine blk_drew ?_ | refine blk_alloc ?_ _)); exact BK282.out⟩, ⟨by (with_reducible repeat (first | refine blk_drewN ?_ _ | refine blk_drew ?_ | refine blk_alloc ?_ _)); refine blk_far ?_ NB292_302.out _; (with_reducible repeat (first | refine blk_drewN ?_ _ | refine blk_drew ?_ | refine blk_alloc ?_ _)); refine blk_far ?_ NB292_302.out _; (with_reducible repeat (first | refine blk_drewN ?_ _ | refine blk_drew ?_ | refine blk_alloc ?_ _)); refine blk_far ?_ NB292_302.out _; (with_reducible repeat (first | refine blk_drewN ?_ _ | refine blk_drew ?_ | refine blk_alloc ?_ _)); refine blk_far ?_ NB292_302.out _; (with_reducible repeat (first | refine blk_drewN ?_ _ | refine blk_drew ?_ | refine blk_alloc ?_ _)); exact BK292.out⟩, ⟨by (with_reducible repeat (first | refine blk_drewN ?_ _ | refine blk_drew ?_ | refine blk_alloc ?_ _)); refine blk_put (cs := #[.slice Ao54 t293.length co54, .string t296, .int .i64 t297, .slice none 0 0]) ?_ 3 _ rfl; (with_reducible repeat (first | refine blk_drewN ?_ _ | refine blk_drew ?_ | refine blk_alloc ?_ _)); refine blk_put (cs := #[.slice Ao54 t293.length co54, .string t296, .int .i64 0, .slice none 0 0]) ?_ 2 _ rfl; (with_reducible repeat (first | refine blk_drewN ?_ _ | refine blk_drew ?_ | refine blk_alloc ?_ _)); refine blk_put (cs := #[.slice Ao54 t293.length co54, .string (⟨#[]⟩ : ByteArray), .int .i64 0, .slice none 0 0]) ?_ 1 _ rfl; (with_reducible repeat (first | refine blk_drewN ?_ _ | refine blk_drew ?_ | refine blk_alloc ?_ _)); refine blk_put (cs := #[.slice none 0 0, .string (⟨#[]⟩ : ByteArray), .int .i64 0, .slice none 0 0]) ?_ 0 _ rfl; (with_reducible repeat (first | refine blk_drewN ?_ _ | refine blk_drew ?_ | refine blk_alloc ?_ _)); exact BK302.out⟩, ⟨by repeat (first | (with_reducible first | exact HB.out | apply KB.bb_alloc | apply KB.bb_drewN | apply KB.bb_drew1 | refine KB.bb_set ?_ GE265.out | refine KB.bb_set ?_ GE282.out | refine KB.bb_set ?_ GE292.out | refine KB.bb_set ?_ GE302.out) | exact HB.out)⟩⟩
                    case round =>
                      clear H'
                      try clear c1
                      try clear c2
                      try clear p2
                      try clear q2
                      try clear hx2
                      try clear hf2
                      try clear c3
                      try clear c4
                      try clear c4b0
                      try clear c4b1
                      try clear c4b2
                      try clear hcv4
                      try clear c5
                      try clear c5b0
                      try clear c5b1
                      try clear p6
                      try clear c7
                      try clear c7b0
                      try clear c8
                      try clear c8b0
                      try clear c9
                      try clear c9b0
                      try clear c9b1
                      try clear c16
                      try clear c16b0
                      try clear c17
                      try clear c17b0
                      try clear c18
                      try clear c18b0
                      try clear c19
                      try clear c19b0
                      try clear c21
                      try clear c21b0
                      try clear c21b1
                      try clear c23
                      try clear c23b0
                      try clear c23b1
                      try clear p24
                      try clear q24
                      try clear hx24
                      try clear hf24
                      try clear c26
                      try clear p26
                      try clear q26
                      try clear hx26
                      try clear p27
                      try clear q27
                      try clear hx27
                      try clear c33
                      try clear c33b0
                      try clear c33b1
                      try clear c33b2
                      try clear c40
                      try clear hcv43
                      try clear c47
                      try clear c48
                      try clear c55
                      try clear c56
                      try clear c57
                      try clear hcz13_0
                      try clear hcz13_1
                      try clear hcz13_2
                      try clear hcz13_3
                      try clear hcz36_0
                      try clear hcz36_1
                      try clear hcz36_2
                      try clear hcz36_3
                      try clear hcz41_0
                      try clear hcz41_1
                      try clear hcz41_2
                      try clear hcz41_3
                      try clear hcz49_0
                      try clear hcz49_1
                      try clear hcz49_2
                      try clear hcz49_3
                      try clear hcz51_0
                      try clear hcz51_1
                      try clear hcz51_2
                      try clear hcz51_3
                      try clear hcz58_0
                      try clear hcz58_1
                      try clear hcz58_2
                      try clear hcz58_3
                      try clear hfz13_0
                      try clear hfz13_1
                      try clear hfz13_2
                      try clear hfz13_3
                      try clear hfz36_0
                      try clear hfz36_1
                      try clear hfz36_2
                      try clear hfz36_3
                      try clear hfz41_0
                      try clear hfz41_1
                      try clear hfz41_2
                      try clear hfz41_3
                      try clear hfz49_0
                      try clear hfz49_1
                      try clear hfz49_2
                      try clear hfz49_3
                      try clear hfz51_0
                      try clear hfz51_1
                      try clear hfz51_2
                      try clear hfz51_3
                      try clear hfz58_0
                      try clear hfz58_1
                      try clear hfz58_2
                      try clear hfz58_3
                      try clear hx24_0
                      try clear hx264_0
                      try clear hx264_1
                      try clear hx264_2
                      try clear hx264_3
                      try clear hx269_0
                      try clear hx270_0
                      try clear hx271_0
                      try clear p2
                      try clear p24
                      try clear p264
                      try clear p269
                      try clear p270
                      try clear p271
                      try clear p6
                      try clear q2
                      try clear q24
                      try clear q264
                      try clear q269
                      try clear q270
                      try clear q271
                      obtain ⟨x16_2, rfl, HA, HK2, HO_5, HO_283000, HO_283003, HO_293000, HO_293003, HO_303000, HO_303003, BK265, BK282, BK292, BK302, HB⟩ := hrel
                      cases gk with
                      | zero => exact absurd HA.out (by simp [sobriquetlaw22_AttrNames.l1])
                      | succ k2 =>
                        have H := HA.out
                        clear HA
                        simp only [sobriquetlaw22_AttrNames.l1] at H
                        by_cases c60 : x16_2 < (t261.length : Int)
                        · rw [if_pos c60] at H
                          have c60b0 : decide (x16_2 < (t261.length : Int)) = true := decide_eq_true c60
                          clear c60
                          by_cases c61 : x16_2 = ji6
                          · rw [if_pos c61] at H
                            have c61b0 : (x16_2 == ji6) = true := beq_iff_eq.mpr c61
                            have c61b1 : (x16_2 != ji6) = false := bne_eq_false_iff_eq.mpr c61
                            clear c61
                            have H' := Aside0.mk H
                            clear H
                            try go_wp2
                            have n0_ := Aside0.mk (Kd.N_drew HO_5.out)
                            have n1_ := Aside0.mk (Kd.V_drew HO_283000.out)
                            have n2_ := Aside0.mk (Kd.R_drew HO_283003.out)
                            have n3_ := Aside0.mk (Kd.V_drew HO_293000.out)
                            have n4_ := Aside0.mk (Kd.R_drew HO_293003.out)
                            have n5_ := Aside0.mk (Kd.V_drew HO_303000.out)
                            have n6_ := Aside0.mk (Kd.R_drew HO_303003.out)
                            have n7_ := Aside0.mk (blk_drew BK265.out)
                            have n8_ := Aside0.mk (blk_drew BK282.out)
                            have n9_ := Aside0.mk (blk_drew BK292.out)
                            have n10_ := Aside0.mk (blk_drew BK302.out)
                            have n11_ := Aside0.mk (KB.bb_drew1 HB.out)
                            clear HO_5
                            clear HO_283000
                            clear HO_283003
                            clear HO_293000
                            clear HO_293003
                            clear HO_303000
                            clear HO_303003
                            clear BK265
                            clear BK282
                            clear BK292
                            clear BK302
                            clear HB
                            have HO_5 := n0_
                            have HO_283000 := n1_
                            have HO_283003 := n2_
                            have HO_293000 := n3_
                            have HO_293003 := n4_
                            have HO_303000 := n5_
                            have HO_303003 := n6_
                            have BK265 := n7_
                            have BK282 := n8_
                            have BK292 := n9_
                            have BK302 := n10_
                            have HB := n11_
                            clear n0_ n1_ n2_ n3_ n4_ n5_ n6_ n7_ n8_ n9_ n10_ n11_
                            refine start_ (n := 23) (S := fun w' => True) (ds := []) #[false, false, false, false, false, false, false, false, false, false, false, false, false, false, false, false, false, false, false, false, false, false, false] (by kernel_rfl) rfl rfl trivial (fun hHeld => ?_); refine with_tabW sobriquetlaw22_AttrNames.tab18 sobriquetlaw22_AttrNames.bits18 (fun HT_ HW_ => ?_)
                            generalize wr.drew = w62 at HO_5 HO_283000 HO_283003 HO_293000 HO_293003 HO_303000 HO_303003 BK265 BK282 BK292 BK302 HB hHeld ⊢
                            refine pure_ (i := 0) (N := some 96) (v := ?_) (a' := ?_) #[true, false, false, false, false, false, false, false, false, false, false, false, false, false, false, false, false, false, false, false, false, false, false] rfl rfl (any_of HT_.out (by kernel_rfl)) (fun _ _ _ h => h) (Or.inl ⟨by rfl, ?_⟩) ?_ ?_
                            rotate_left
                            · intro w'
                              go_simp
                              with_reducible rfl
                            rotate_left
                            · simp only [Act.put, List.setIfInBounds_toArray, List.set_cons_zero, List.set_cons_succ, i64_w, i32_w]
                              rfl
                            refine pure_ (i := 1) (N := some 97) (v := ?_) (a' := ?_) #[true, true, false, false, false, false, false, false, false, false, false, false, false, false, false, false, false, false, false, false, false, false, false] rfl rfl (any_of HT_.out (by kernel_rfl)) (fun _ _ _ h => h) (Or.inl ⟨by rfl, ?_⟩) ?_ ?_
                            rotate_left
                            · intro w'
                              go_simp
                              with_reducible rfl
                            rotate_left
                            · simp only [Act.put, List.setIfInBounds_toArray, List.set_cons_zero, List.set_cons_succ, i64_w, i32_w]
                              rfl
                            refine pure_ (i := 2) (N := some 98) (v := ?_) (a' := ?_) #[true, true, true, false, false, false, false, false, false, false, false, false, false, false, false, false, false, false, false, false, false, false, false] rfl rfl (any_of HT_.out (by kernel_rfl)) (fun _ _ _ h => h) (Or.inl ⟨by rfl, ?_⟩) ?_ ?_
                            rotate_left
                            · intro w'
                              go_simp
                              with_reducible rfl
                            rotate_left
                            · simp only [Act.put, List.setIfInBounds_toArray, List.set_cons_zero, List.set_cons_succ, i64_w, i32_w]
                              rfl
                            refine pure_ (i := 3) (N := some 99) (v := ?_) (a' := ?_) #[true, true, true, true, false, false, false, false, false, false, false, false, false, false, false, false, false, false, false, false, false, false, false] rfl rfl (any_of HT_.out (by kernel_rfl)) (fun _ _ _ h => h) (Or.inl ⟨by rfl, ?_⟩) ?_ ?_
                            rotate_left
                            · intro w'
                              go_simp
                              with_reducible rfl
                            rotate_left
                            · simp only [Act.put, List.setIfInBounds_toArray, List.set_cons_zero, List.set_cons_succ, i64_w, i32_w]
                              rfl
                            refine pure_ (i := 4) (N := some 100) (v := undef) (a' := ?_) #[true, true, true, true, true, false, false, false, false, false, false, false, false, false, false, false, false, false, false, false, false, false, false] rfl rfl (any_of HT_.out (by kernel_rfl)) (fun _ _ _ h => h) (Or.inr ⟨by rfl, rfl⟩) ?_ ?_
                            rotate_left
                            · simp only [Act.put, List.setIfInBounds_toArray, List.set_cons_zero, List.set_cons_succ, i64_w, i32_w]
                              rfl
                            refine pure_ (i := 5) (N := some 101) (v := undef) (a' := ?_) #[true, true, true, true, true, true, false, false, false, false, false, false, false, false, false, false, false, false, false, false, false, false, false] rfl rfl (any_of HT_.out (by kernel_rfl)) (fun _ _ _ h => h) (Or.inr ⟨by rfl, rfl⟩) ?_ ?_
                            rotate_left
                            · simp only [Act.put, List.setIfInBounds_toArray, List.set_cons_zero, List.set_cons_succ, i64_w, i32_w]
                              rfl
                            refine pure_ (i := 6) (N := some 102) (v := undef) (a' := ?_) #[true, true, true, true, true, true, true, false, false, false, false, false, false, false, false, false, false, false, false, false, false, false, false] rfl rfl (any_of HT_.out (by kernel_rfl)) (fun _ _ _ h => h) (Or.inr ⟨by rfl, rfl⟩) ?_ ?_
                            rotate_left
                            · simp only [Act.put, List.setIfInBounds_toArray, List.set_cons_zero, List.set_cons_succ, i64_w, i32_w]
                              rfl
                            refine pure_ (i := 7) (N := some 103) (v := undef) (a' := ?_) #[true, true, true, true, true, true, true, true, false, false, false, false, false, false, false, false, false, false, false, false, false, false, false] rfl rfl (any_of HT_.out (by kernel_rfl)) (fun _ _ _ h => h) (Or.inr ⟨by rfl, rfl⟩) ?_ ?_
                            rotate_left
                            · simp only [Act.put, List.setIfInBounds_toArray, List.set_cons_zero, List.set_cons_succ, i64_w, i32_w]
                              rfl
                            refine pure_ (i := 8) (N := some 104) (v := undef) (a' := ?_) #[true, true, true, true, true, true, true, true, true, false, false, false, false, false, false, false, false, false, false, false, false, false, false] rfl rfl (any_of HT_.out (by kernel_rfl)) (fun _ _ _ h => h) (Or.inr ⟨by rfl, rfl⟩) ?_ ?_
                            rotate_left
                            · simp only [Act.put, List.setIfInBounds_toArray, List.set_cons_zero, List.set_cons_succ, i64_w, i32_w]
                              rfl
                            refine pure_ (i := 9) (N := some 105) (v := undef) (a' := ?_) #[true, true, true, true, true, true, true, true, true, true, false, false, false, false, false, false, false, false, false, false, false, false, false] rfl rfl (any_of HT_.out (by kernel_rfl)) (fun _ _ _ h => h) (Or.inr ⟨by rfl, rfl⟩) ?_ ?_
                            rotate_left
                            · simp only [Act.put, List.setIfInBounds_toArray, List.set_cons_zero, List.set_cons_succ, i64_w, i32_w]
                              rfl
                            refine pure_ (i := 10) (N := some 106) (v := undef) (a' := ?_) #[true, true, true, true, true, true, true, true, true, true, true, false, false, false, false, false, false, false, false, false, false, false, false] rfl rfl (any_of HT_.out (by kernel_rfl)) (fun _ _ _ h => h) (Or.inr ⟨by rfl, rfl⟩) ?_ ?_
                            rotate_left
                            · simp only [Act.put, List.setIfInBounds_toArray, List.set_cons_zero, List.set_cons_succ, i64_w, i32_w]
                              rfl
                            refine pure_ (i := 11) (N := some 107) (v := undef) (a' := ?_) #[true, true, true, true, true, true, true, true, true, true, true, true, false, false, false, false, false, false, false, false, false, false, false] rfl rfl (any_of HT_.out (by kernel_rfl)) (fun _ _ _ h => h) (Or.inr ⟨by rfl, rfl⟩) ?_ ?_
                            rotate_left
                            · simp only [Act.put, List.setIfInBounds_toArray, List.set_cons_zero, List.set_cons_succ, i64_w, i32_w]
                              rfl
                            refine pure_ (i := 12) (N := some 108) (v := undef) (a' := ?_) #[true, true, true, true, true, true, true, true, true, true, true, true, true, false, false, false, false, false, false, false, false, false, false] rfl rfl (any_of HT_.out (by kernel_rfl)) (fun _ _ _ h => h) (Or.inr ⟨by rfl, rfl⟩) ?_ ?_
                            rotate_left
                            · simp only [Act.put, List.setIfInBounds_toArray, List.set_cons_zero, List.set_cons_succ, i64_w, i32_w]
                              rfl
                            refine pure_ (i := 13) (N := some 109) (v := undef) (a' := ?_) #[true, true, true, true, true, true, true, true, true, true, true, true, true, true, false, false, false, false, false, false, false, false, false] rfl rfl (any_of HT_.out (by kernel_rfl)) (fun _ _ _ h => h) (Or.inr ⟨by rfl, rfl⟩) ?_ ?_
                            rotate_left
                            · simp only [Act.put, List.setIfInBounds_toArray, List.set_cons_zero, List.set_cons_succ, i64_w, i32_w]
                              rfl
                            refine pure_ (i := 14) (N := some 110) (v := undef) (a' := ?_) #[true, true, true, true, true, true, true, true, true, true, true, true, true, true, true, false, false, false, false, false, false, false, false] rfl rfl (any_of HT_.out (by kernel_rfl)) (fun _ _ _ h => h) (Or.inr ⟨by rfl, rfl⟩) ?_ ?_
                            rotate_left
                            · simp only [Act.put, List.setIfInBounds_toArray, List.set_cons_zero, List.set_cons_succ, i64_w, i32_w]
                              rfl
                            refine pure_ (i := 15) (N := some 111) (v := undef) (a' := ?_) #[true, true, true, true, true, true, true, true, true, true, true, true, true, true, true, true, false, false, false, false, false, false, false] rfl rfl (any_of HT_.out (by kernel_rfl)) (fun _ _ _ h => h) (Or.inr ⟨by rfl, rfl⟩) ?_ ?_
                            rotate_left
                            · simp only [Act.put, List.setIfInBounds_toArray, List.set_cons_zero, List.set_cons_succ, i64_w, i32_w]
                              rfl
                            refine pure_ (i := 16) (N := some 112) (v := undef) (a' := ?_) #[true, true, true, true, true, true, true, true, true, true, true, true, true, true, true, true, true, false, false, false, false, false, false] rfl rfl (any_of HT_.out (by kernel_rfl)) (fun _ _ _ h => h) (Or.inr ⟨by rfl, rfl⟩) ?_ ?_
                            rotate_left
                            · simp only [Act.put, List.setIfInBounds_toArray, List.set_cons_zero, List.set_cons_succ, i64_w, i32_w]
                              rfl
                            refine pure_ (i := 17) (N := some 113) (v := undef) (a' := ?_) #[true, true, true, true, true, true, true, true, true, true, true, true, true, true, true, true, true, true, false, false, false, false, false] rfl rfl (any_of HT_.out (by kernel_rfl)) (fun _ _ _ h => h) (Or.inr ⟨by rfl, rfl⟩) ?_ ?_
                            rotate_left
                            · simp only [Act.put, List.setIfInBounds_toArray, List.set_cons_zero, List.set_cons_succ, i64_w, i32_w]
                              rfl
                            refine pure_ (i := 18) (N := some 114) (v := undef) (a' := ?_) #[true, true, true, true, true, true, true, true, true, true, true, true, true, true, true, true, true, true, true, false, false, false, false] rfl rfl (any_of HT_.out (by kernel_rfl)) (fun _ _ _ h => h) (Or.inr ⟨by rfl, rfl⟩) ?_ ?_
                            rotate_left
                            · simp only [Act.put, List.setIfInBounds_toArray, List.set_cons_zero, List.set_cons_succ, i64_w, i32_w]
                              rfl
                            refine pure_ (i := 19) (N := some 115) (v := undef) (a' := ?_) #[true, true, true, true, true, true, true, true, true, true, true, true, true, true, true, true, true, true, true, true, false, false, false] rfl rfl (any_of HT_.out (by kernel_rfl)) (fun _ _ _ h => h) (Or.inr ⟨by rfl, rfl⟩) ?_ ?_
                            rotate_left
                            · simp only [Act.put, List.setIfInBounds_toArray, List.set_cons_zero, List.set_cons_succ, i64_w, i32_w]
                              rfl
                            refine pure_ (i := 20) (N := some 116) (v := undef) (a' := ?_) #[true, true, true, true, true, true, true, true, true, true, true, true, true, true, true, true, true, true, true, true, true, false, false] rfl rfl (any_of HT_.out (by kernel_rfl)) (fun _ _ _ h => h) (Or.inr ⟨by rfl, rfl⟩) ?_ ?_
                            rotate_left
                            · simp only [Act.put, List.setIfInBounds_toArray, List.set_cons_zero, List.set_cons_succ, i64_w, i32_w]
                              rfl
                            refine pure_ (i := 21) (N := some 117) (v := undef) (a' := ?_) #[true, true, true, true, true, true, true, true, true, true, true, true, true, true, true, true, true, true, true, true, true, true, false] rfl rfl (any_of HT_.out (by kernel_rfl)) (fun _ _ _ h => h) (Or.inr ⟨by rfl, rfl⟩) ?_ ?_
                            rotate_left
                            · simp only [Act.put, List.setIfInBounds_toArray, List.set_cons_zero, List.set_cons_succ, i64_w, i32_w]
                              rfl
                            refine pure_ (i := 22) (N := some 118) (v := ?_) (a' := ?_) #[true, true, true, true, true, true, true, true, true, true, true, true, true, true, true, true, true, true, true, true, true, true, true] rfl rfl (any_of HT_.out (by kernel_rfl)) (fun _ _ _ h => h) (Or.inl ⟨by rfl, ?_⟩) ?_ ?_
                            rotate_left
                            · intro w'
                              go_simp
                              with_reducible rfl
                            rotate_left
                            · simp only [Act.put, List.setIfInBounds_toArray, List.set_cons_zero, List.set_cons_succ, i64_w, i32_w]
                              rfl
                            refine done_ (done_of HT_.out (by kernel_rfl)) ?_
                            try go_wp2
                            go_roundg k2
                            case measure => have := HK1.out; have := HK2.out; omega
                            case rel => exact ⟨(wrap64 (x16_2 + 1)), (by first | rfl | (simp; done) | (simp [*]; done)), H', ⟨by have := HK1.out; have := HK2.out; omega⟩, ⟨by (with_reducible repeat (first | apply Kd.N_alloc | apply Kd.N_drewN | apply Kd.N_drew)); exact HO_5.out⟩, ⟨by (with_reducible repeat (first | apply Kd.V_alloc | apply Kd.V_drewN | apply Kd.V_drew)); exact HO_283000.out⟩, ⟨by (with_reducible repeat (first | apply Kd.R_alloc | apply Kd.R_drewN | apply Kd.R_drew | apply KB.R_alloc | apply KB.R_drewN | apply KB.R_drew)); exact HO_283003.out⟩, ⟨by (with_reducible repeat (first | apply Kd.V_alloc | apply Kd.V_drewN | apply Kd.V_drew)); exact HO_293000.out⟩, ⟨by (with_reducible repeat (first | apply Kd.R_alloc | apply Kd.R_drewN | apply Kd.R_drew | apply KB.R_alloc | apply KB.R_drewN | apply KB.R_drew)); exact HO_293003.out⟩, ⟨by (with_reducible repeat (first | apply Kd.V_alloc | apply Kd.V_drewN | apply Kd.V_drew)); exact HO_303000.out⟩, ⟨by (with_reducible repeat (first | apply Kd.R_alloc | apply Kd.R_drewN | apply Kd.R_drew | apply KB.R_alloc | apply KB.R_drewN | apply KB.R_drew)); exact HO_303003.out⟩, ⟨by (with_reducible repeat (first | refine blk_drewN ?_ _ | refine blk_drew ?_ | refine blk_alloc ?_ _)); exact BK265.out⟩, ⟨by (with_reducible repeat (first | refine blk_drewN ?_ _ | refine blk_drew ?_ | refine blk_alloc ?_ _)); exact BK282.out⟩, ⟨by (with_reducible repeat (first | refine blk_drewN ?_ _ | refine blk_drew ?_ | refine blk_alloc ?_ _)); exact BK292.out⟩, ⟨by (with_reducible repeat (first | refine blk_drewN ?_ _ | refine blk_drew ?_ | refine blk_alloc ?_ _)); exact BK302.out⟩, ⟨by repeat (first | (with_reducible first | exact HB.out | apply KB.bb_alloc | apply KB.bb_drewN | apply KB.bb_drew1 | refine KB.bb_set ?_ GE265.out | refine KB.bb_set ?_ GE282.out | refine KB.bb_set ?_ GE292.out | refine KB.bb_set ?_ GE302.out) | exact HB.out)⟩⟩
                          · rw [if_neg c61] at H
                            have c61b0 : (x16_2 == ji6) = false := beq_eq_false_iff_ne.mpr c61
                            have c61b1 : (x16_2 != ji6) = true := bne_iff_ne.mpr c61
                            by_cases c63 : 0 ≤ x16_2
                            · rw [if_pos c63] at H
                              have c63b0 : decide (0 ≤ x16_2) = true := decide_eq_true c63
                              clear c63
                              by_cases c64 : ((rd_T27 t261 x16_2).f1).toList = ((rd_T27 t261 (ji6)).f1).toList
                              · rw [if_pos c64] at H
                                have c64b0 : (((rd_T27 t261 x16_2).f1).toList == ((rd_T27 t261 (ji6)).f1).toList) = true := beq_iff_eq.mpr c64
                                have c64b1 : (((rd_T27 t261 x16_2).f1).toList != ((rd_T27 t261 (ji6)).f1).toList) = false := bne_eq_false_iff_eq.mpr c64
                                clear c64
                                exact absurd ((Option.some.inj H).trans hrt.out) (by decide)
                              · rw [if_neg c64] at H
                                have c64b0 : (((rd_T27 t261 x16_2).f1).toList == ((rd_T27 t261 (ji6)).f1).toList) = false := beq_eq_false_iff_ne.mpr c64
                                have c64b1 : (((rd_T27 t261 x16_2).f1).toList != ((rd_T27 t261 (ji6)).f1).toList) = true := bne_iff_ne.mpr c64
                                replace H := Option.bind_eq_some_iff.mp H
                                obtain ⟨t305, A650, H⟩ := H
                                replace H : (if t305 = true then (some false) else (sobriquetlaw22_AttrNames.l1 k2 t261 ji6 t281 t291 t301 (wrap64 (x16_2 + 1)) ((rd_T27 t261 (ji6)).f0) ((rd_T27 t261 (ji6)).f1) ((rd_T27 t261 (ji6)).f2) ((rd_T27 t261 (ji6)).f3) t273 t276 t277 t278 t283 t286 t287 t288)) = some r := H
                                have A65 := Aside0.mk A650
                                clear A650
                                by_cases c66 : t305 = true
                                · subst c66
                                  have H1 : (some false) = some r := by rw [if_pos rfl] at H; exact H
                                  clear H
                                  have H := H1
                                  clear H1
                                  exact absurd ((Option.some.inj H).trans hrt.out) (by decide)
                                · replace c66 := Bool.eq_false_iff.mpr c66
                                  subst c66
                                  have H1 : (sobriquetlaw22_AttrNames.l1 k2 t261 ji6 t281 t291 t301 (wrap64 (x16_2 + 1)) ((rd_T27 t261 (ji6)).f0) ((rd_T27 t261 (ji6)).f1) ((rd_T27 t261 (ji6)).f2) ((rd_T27 t261 (ji6)).f3) t273 t276 t277 t278 t283 t286 t287 t288) = some r := by rw [if_neg (show ¬ (false = true) by decide)] at H; exact H
                                  clear H
                                  have H := H1
                                  clear H1
                                  have H' := Aside0.mk H
                                  clear H
                                  try go_wp2
                                  have n0_ := Aside0.mk (Kd.N_drew HO_5.out)
                                  have n1_ := Aside0.mk (Kd.V_drew HO_283000.out)
                                  have n2_ := Aside0.mk (Kd.R_drew HO_283003.out)
                                  have n3_ := Aside0.mk (Kd.V_drew HO_293000.out)
                                  have n4_ := Aside0.mk (Kd.R_drew HO_293003.out)
                                  have n5_ := Aside0.mk (Kd.V_drew HO_303000.out)
                                  have n6_ := Aside0.mk (Kd.R_drew HO_303003.out)
                                  have n7_ := Aside0.mk (blk_drew BK265.out)
                                  have n8_ := Aside0.mk (blk_drew BK282.out)
                                  have n9_ := Aside0.mk (blk_drew BK292.out)
                                  have n10_ := Aside0.mk (blk_drew BK302.out)
                                  have n11_ := Aside0.mk (KB.bb_drew1 HB.out)
                                  clear HO_5
                                  clear HO_283000
                                  clear HO_283003
                                  clear HO_293000
                                  clear HO_293003
                                  clear HO_303000
                                  clear HO_303003
                                  clear BK265
                                  clear BK282
                                  clear BK292
                                  clear BK302
                                  clear HB
                                  have HO_5 := n0_
                                  have HO_283000 := n1_
                                  have HO_283003 := n2_
                                  have HO_293000 := n3_
                                  have HO_293003 := n4_
                                  have HO_303000 := n5_
                                  have HO_303003 := n6_
                                  have BK265 := n7_
                                  have BK282 := n8_
                                  have BK292 := n9_
                                  have BK302 := n10_
                                  have HB := n11_
                                  clear n0_ n1_ n2_ n3_ n4_ n5_ n6_ n7_ n8_ n9_ n10_ n11_
                                  have p303 : 0 ≤ (x16_2 : Int) := of_decide_eq_true (by first | (with_reducible assumption) | assumption)
                                  have q303 : x16_2 < (t261.length : Int) := of_decide_eq_true (by first | (with_reducible assumption) | assumption)
                                  obtain ⟨ad303, A303_0, c303_0, A303_3, c303_3, e303, hx303_0, hx303_1, hx303_2, hx303_3, hl303_0, hi303_0, hl303_3, hi303_3⟩ := at_T27 (Kd.N_reads' HO_5.out).2.2 x16_2 p303 q303
                                  obtain rfl : ad264 = ad303 := (by injection e303)
                                  obtain ⟨ce303, hce303, hMe303, hcc303⟩ := Kd.N_get HO_5.out z27 x16_2 p303 (by first | exact q303 | exact of_decide_eq_true (by first | (with_reducible assumption) | assumption) | (have e_ := (Kd.N_reads' HO_5.out).1; omega))
                                  obtain ⟨ua303_0, uc303_0, ua303_3, uc303_3, rfl, ul303_0, ge303_0, ul303_3, ge303_3⟩ := k27_openF hMe303
                                  have hv303_0 := hcc303 0 _ rfl
                                  rw [Nat.add_zero] at hv303_0
                                  replace hv303_0 := Option.some.inj (hv303_0.symm.trans hx303_0)
                                  injection hv303_0 with hva_ hvn_ hvc_
                                  rw [hva_] at ge303_0
                                  rw [hvc_] at ul303_0
                                  have HL303_0 := Aside0.mk (show Kd.V (Kd.int .i64) 3 _ w.heap.size _ _ ((rd_T27 t261 x16_2).f0) from Kd.V_mk ul303_0 ge303_0)
                                  clear hva_ hvn_ hvc_ ge303_0 ul303_0
                                  have hv303_3 := hcc303 3 _ rfl
                                  rw [add_field _ _ 3 (by omega)] at hv303_3
                                  replace hv303_3 := Option.some.inj (hv303_3.symm.trans hx303_3)
                                  injection hv303_3 with hva_ hvn_ hvc_
                                  rw [hva_] at ge303_3
                                  rw [hvc_] at ul303_3
                                  have HL303_3 := Aside0.mk (show Kd.V (Kd.int .i64) 3 _ w.heap.size _ _ ((rd_T27 t261 x16_2).f3) from Kd.V_mk ul303_3 ge303_3)
                                  clear hva_ hvn_ hvc_ ge303_3 ul303_3
                                  clear hcc303 hce303
                                  have HR303_0 := Aside0.mk hi303_0
                                  have HC303_0 := Aside0.mk hl303_0
                                  clear hi303_0 hl303_0
                                  have HR303_3 := Aside0.mk hi303_3
                                  have HC303_3 := Aside0.mk hl303_3
                                  clear hi303_3 hl303_3
                                  replace p303 := eq_true p303
                                  replace q303 := eq_true q303
                                  have p304 : 0 ≤ (x16_2 : Int) := of_decide_eq_true (by first | (with_reducible assumption) | assumption)
                                  have q304 : x16_2 < (t261.length : Int) := of_decide_eq_true (by first | (with_reducible assumption) | assumption)
                                  obtain ⟨ad304, A304_0, c304_0, A304_3, c304_3, e304, hx304_0, hx304_1, hx304_2, hx304_3, hl304_0, hi304_0, hl304_3, hi304_3⟩ := at_T27 (Kd.N_reads' HO_5.out).2.2 x16_2 p304 q304
                                  obtain rfl : ad264 = ad304 := (by injection e304)
                                  obtain ⟨ce304, hce304, hMe304, hcc304⟩ := Kd.N_get HO_5.out z27 x16_2 p304 (by first | exact q304 | exact of_decide_eq_true (by first | (with_reducible assumption) | assumption) | (have e_ := (Kd.N_reads' HO_5.out).1; omega))
                                  obtain ⟨ua304_0, uc304_0, ua304_3, uc304_3, rfl, ul304_0, ge304_0, ul304_3, ge304_3⟩ := k27_openF hMe304
                                  have hv304_0 := hcc304 0 _ rfl
                                  rw [Nat.add_zero] at hv304_0
                                  replace hv304_0 := Option.some.inj (hv304_0.symm.trans hx304_0)
                                  injection hv304_0 with hva_ hvn_ hvc_
                                  rw [hva_] at ge304_0
                                  rw [hvc_] at ul304_0
                                  have HL304_0 := Aside0.mk (show Kd.V (Kd.int .i64) 3 _ w.heap.size _ _ ((rd_T27 t261 x16_2).f0) from Kd.V_mk ul304_0 ge304_0)
                                  clear hva_ hvn_ hvc_ ge304_0 ul304_0
                                  have hv304_3 := hcc304 3 _ rfl
                                  rw [add_field _ _ 3 (by omega)] at hv304_3
                                  replace hv304_3 := Option.some.inj (hv304_3.symm.trans hx304_3)
                                  injection hv304_3 with hva_ hvn_ hvc_
                                  rw [hva_] at ge304_3
                                  rw [hvc_] at ul304_3
                                  have HL304_3 := Aside0.mk (show Kd.V (Kd.int .i64) 3 _ w.heap.size _ _ ((rd_T27 t261 x16_2).f3) from Kd.V_mk ul304_3 ge304_3)
                                  clear hva_ hvn_ hvc_ ge304_3 ul304_3
                                  clear hcc304 hce304
                                  have HR304_0 := Aside0.mk hi304_0
                                  have HC304_0 := Aside0.mk hl304_0
                                  clear hi304_0 hl304_0
                                  have HR304_3 := Aside0.mk hi304_3
                                  have HC304_3 := Aside0.mk hl304_3
                                  clear hi304_3 hl304_3
                                  replace p304 := eq_true p304
                                  replace q304 := eq_true q304
                                  have ea_ := Option.some.inj (hx303_0.symm.trans hx304_0)
                                  injection ea_ with ea_ en_ ec_
                                  subst ea_
                                  subst ec_
                                  clear en_
                                  have ea_ := Option.some.inj (hx303_3.symm.trans hx304_3)
                                  injection ea_ with ea_ en_ ec_
                                  subst ea_
                                  subst ec_
                                  clear en_
                                  refine start_ (n := 23) (S := fun w' => w'.cell? ⟨gb265, 0, none⟩ = some (.slice A264_0 ((rd_T27 t261 (ji6)).f0).length c264_0) ∧ w'.cell? ⟨gb265, 1, none⟩ = some (.string ((rd_T27 t261 (ji6)).f1)) ∧ w'.cell? ⟨gb265, 2, none⟩ = some (.int .i64 ((rd_T27 t261 (ji6)).f2)) ∧ w'.cell? ⟨gb265, 3, none⟩ = some (.slice A264_3 ((rd_T27 t261 (ji6)).f3).length c264_3) ∧ w'.cell? (ad264.add ((x16_2).toNat * 4)) = some (.slice A303_0 ((rd_T27 t261 x16_2).f0).length c303_0) ∧ w'.cell? ⟨(ad264.add ((x16_2).toNat * 4)).block, (ad264.add ((x16_2).toNat * 4)).off + 1, none⟩ = some (.string ((rd_T27 t261 x16_2).f1)) ∧ w'.cell? ⟨(ad264.add ((x16_2).toNat * 4)).block, (ad264.add ((x16_2).toNat * 4)).off + 2, none⟩ = some (.int .i64 ((rd_T27 t261 x16_2).f2)) ∧ w'.cell? ⟨(ad264.add ((x16_2).toNat * 4)).block, (ad264.add ((x16_2).toNat * 4)).off + 3, none⟩ = some (.slice A303_3 ((rd_T27 t261 x16_2).f3).length c303_3) ∧ w'.cell? (ad264.add ((x16_2).toNat * 4)) = some (.slice A303_0 ((rd_T27 t261 x16_2).f0).length c303_0) ∧ w'.cell? ⟨(ad264.add ((x16_2).toNat * 4)).block, (ad264.add ((x16_2).toNat * 4)).off + 1, none⟩ = some (.string ((rd_T27 t261 x16_2).f1)) ∧ w'.cell? ⟨(ad264.add ((x16_2).toNat * 4)).block, (ad264.add ((x16_2).toNat * 4)).off + 2, none⟩ = some (.int .i64 ((rd_T27 t261 x16_2).f2)) ∧ w'.cell? ⟨(ad264.add ((x16_2).toNat * 4)).block, (ad264.add ((x16_2).toNat * 4)).off + 3, none⟩ = some (.slice A303_3 ((rd_T27 t261 x16_2).f3).length c303_3)) (ds := []) #[false, false, false, false, false, false, false, false, false, false, false, false, false, false, false, false, false, false, false, false, false, false, false] (by kernel_rfl) rfl rfl ⟨(blk_cell BK265.out 0).trans rfl, (blk_cell BK265.out 1).trans rfl, (blk_cell BK265.out 2).trans rfl, (blk_cell BK265.out 3).trans rfl, hx303_0, hx303_1, hx303_2, hx303_3, hx304_0, hx304_1, hx304_2, hx304_3⟩ (fun hHeld => ?_); refine with_tabW sobriquetlaw22_AttrNames.tab18 sobriquetlaw22_AttrNames.bits18 (fun HT_ HW_ => ?_)
                                  generalize wr.drew = w67 at HO_5 HO_283000 HO_283003 HO_293000 HO_293003 HO_303000 HO_303003 BK265 BK282 BK292 BK302 HB HL303_0 HL303_3 HL304_0 HL304_3 HR303_0 HR303_3 HR304_0 HR304_3 hx303_0 hx303_1 hx303_2 hx303_3 hx304_0 hx304_1 hx304_2 hx304_3 hHeld ⊢
                                  refine pure_ (i := 0) (N := some 96) (v := ?_) (a' := ?_) #[true, false, false, false, false, false, false, false, false, false, false, false, false, false, false, false, false, false, false, false, false, false, false] rfl rfl (any_of HT_.out (by kernel_rfl)) (fun _ _ _ h => h) (Or.inl ⟨by rfl, ?_⟩) ?_ ?_
                                  rotate_left
                                  · intro w'
                                    go_simp
                                    with_reducible rfl
                                  rotate_left
                                  · simp only [Act.put, List.setIfInBounds_toArray, List.set_cons_zero, List.set_cons_succ, i64_w, i32_w]
                                    rfl
                                  refine pure_ (i := 1) (N := some 97) (v := ?_) (a' := ?_) #[true, true, false, false, false, false, false, false, false, false, false, false, false, false, false, false, false, false, false, false, false, false, false] rfl rfl (any_of HT_.out (by kernel_rfl)) (fun _ _ _ h => h) (Or.inl ⟨by rfl, ?_⟩) ?_ ?_
                                  rotate_left
                                  · intro w'
                                    go_simp
                                    with_reducible rfl
                                  rotate_left
                                  · simp only [Act.put, List.setIfInBounds_toArray, List.set_cons_zero, List.set_cons_succ, i64_w, i32_w]
                                    rfl
                                  refine pure_ (i := 2) (N := some 98) (v := ?_) (a' := ?_) #[true, true, true, false, false, false, false, false, false, false, false, false, false, false, false, false, false, false, false, false, false, false, false] rfl rfl (any_of HT_.out (by kernel_rfl)) (fun _ _ _ h => h) (Or.inl ⟨by rfl, ?_⟩) ?_ ?_
                                  rotate_left
                                  · intro w'
                                    go_simp
                                    with_reducible rfl
                                  rotate_left
                                  · simp only [Act.put, List.setIfInBounds_toArray, List.set_cons_zero, List.set_cons_succ, i64_w, i32_w]
                                    rfl
                                  refine pure_ (i := 3) (N := some 99) (v := ?_) (a' := ?_) #[true, true, true, true, false, false, false, false, false, false, false, false, false, false, false, false, false, false, false, false, false, false, false] rfl rfl (any_of HT_.out (by kernel_rfl)) (fun _ _ _ h => h) (Or.inl ⟨by rfl, ?_⟩) ?_ ?_
                                  rotate_left
                                  · intro w'
                                    go_simp
                                    with_reducible rfl
                                  rotate_left
                                  · simp only [Act.put, List.setIfInBounds_toArray, List.set_cons_zero, List.set_cons_succ, i64_w, i32_w]
                                    rfl
                                  refine pure_ (i := 4) (N := some 100) (v := ?_) (a' := ?_) #[true, true, true, true, true, false, false, false, false, false, false, false, false, false, false, false, false, false, false, false, false, false, false] rfl rfl (any_of HT_.out (by kernel_rfl)) (fun _ _ _ h => h) (Or.inl ⟨by rfl, ?_⟩) ?_ ?_
                                  rotate_left
                                  · intro w'
                                    go_simp
                                    with_reducible rfl
                                  rotate_left
                                  · simp only [Act.put, List.setIfInBounds_toArray, List.set_cons_zero, List.set_cons_succ, i64_w, i32_w]
                                    rfl
                                  refine pure_ (i := 5) (N := some 101) (v := ?_) (a' := ?_) #[true, true, true, true, true, true, false, false, false, false, false, false, false, false, false, false, false, false, false, false, false, false, false] rfl rfl (any_of HT_.out (by kernel_rfl)) (fun _ _ _ h => h) (Or.inl ⟨by rfl, ?_⟩) ?_ ?_
                                  rotate_left
                                  · intro w'
                                    go_simp
                                    with_reducible rfl
                                  rotate_left
                                  · simp only [Act.put, List.setIfInBounds_toArray, List.set_cons_zero, List.set_cons_succ, i64_w, i32_w]
                                    rfl
                                  refine pure_ (i := 6) (N := some 102) (v := ?_) (a' := ?_) #[true, true, true, true, true, true, true, false, false, false, false, false, false, false, false, false, false, false, false, false, false, false, false] rfl rfl (any_of HT_.out (by kernel_rfl)) (fun _ _ _ h => h) (Or.inl ⟨by rfl, ?_⟩) ?_ ?_
                                  rotate_left
                                  · intro w'
                                    go_simp
                                    with_reducible rfl
                                  rotate_left
                                  · simp only [Act.put, List.setIfInBounds_toArray, List.set_cons_zero, List.set_cons_succ, i64_w, i32_w]
                                    rfl
                                  refine pure_ (i := 7) (N := some 103) (v := ?_) (a' := ?_) #[true, true, true, true, true, true, true, true, false, false, false, false, false, false, false, false, false, false, false, false, false, false, false] rfl rfl (any_of HT_.out (by kernel_rfl)) (fun _ _ _ h => h) (Or.inl ⟨by rfl, ?_⟩) ?_ ?_
                                  rotate_left
                                  · intro w'
                                    go_simp
                                    with_reducible rfl
                                  rotate_left
                                  · simp only [Act.put, List.setIfInBounds_toArray, List.set_cons_zero, List.set_cons_succ, i64_w, i32_w]
                                    rfl
                                  refine pure_ (i := 9) (N := some 105) (v := ?_) (a' := ?_) #[true, true, true, true, true, true, true, true, false, true, false, false, false, false, false, false, false, false, false, false, false, false, false] rfl rfl (any_of HT_.out (by kernel_rfl)) (fun _ _ _ h => h) (Or.inl ⟨by rfl, ?_⟩) ?_ ?_
                                  rotate_left
                                  · intro w'
                                    go_simp
                                    with_reducible rfl
                                  rotate_left
                                  · simp only [Act.put, List.setIfInBounds_toArray, List.set_cons_zero, List.set_cons_succ, i64_w, i32_w]
                                    rfl
                                  refine take_ (i := 8) (N := some 104) (v := ?_) (a' := ?_) #[true, true, true, true, true, true, true, true, true, true, false, false, false, false, false, false, false, false, false, false, false, false, false] rfl rfl (take_ofW HT_.out HW_.out (by kernel_rfl)) (fun _ _ _ h => h) (Or.inl ⟨by rfl, ?_⟩) hHeld ?_ ?_
                                  rotate_left
                                  · rintro w' ⟨s0, s1, s2, s3, s4, s5, s6, s7, s8, s9, s10, s11⟩
                                    go_simp
                                    with_reducible rfl
                                  rotate_left
                                  · simp only [Act.put, List.setIfInBounds_toArray, List.set_cons_zero, List.set_cons_succ, i64_w, i32_w]
                                    rfl
                                  refine take_ (i := 10) (N := some 106) (v := ?_) (a' := ?_) #[true, true, true, true, true, true, true, true, true, true, true, false, false, false, false, false, false, false, false, false, false, false, false] rfl rfl (take_ofW HT_.out HW_.out (by kernel_rfl)) (fun _ _ _ h => h) (Or.inl ⟨by rfl, ?_⟩) hHeld ?_ ?_
                                  rotate_left
                                  · rintro w' ⟨s0, s1, s2, s3, s4, s5, s6, s7, s8, s9, s10, s11⟩
                                    go_simp
                                    with_reducible rfl
                                  rotate_left
                                  · simp only [Act.put, List.setIfInBounds_toArray, List.set_cons_zero, List.set_cons_succ, i64_w, i32_w]
                                    rfl
                                  refine pure_ (i := 11) (N := some 107) (v := ?_) (a' := ?_) #[true, true, true, true, true, true, true, true, true, true, true, true, false, false, false, false, false, false, false, false, false, false, false] rfl rfl (any_of HT_.out (by kernel_rfl)) (fun _ _ _ h => h) (Or.inl ⟨by rfl, ?_⟩) ?_ ?_
                                  rotate_left
                                  · intro w'
                                    go_simp
                                    with_reducible rfl
                                  rotate_left
                                  · simp only [Act.put, List.setIfInBounds_toArray, List.set_cons_zero, List.set_cons_succ, i64_w, i32_w]
                                    rfl
                                  refine pure_ (i := 12) (N := some 108) (v := ?_) (a' := ?_) #[true, true, true, true, true, true, true, true, true, true, true, true, true, false, false, false, false, false, false, false, false, false, false] rfl rfl (any_of HT_.out (by kernel_rfl)) (fun _ _ _ h => h) (Or.inl ⟨by rfl, ?_⟩) ?_ ?_
                                  rotate_left
                                  · intro w'
                                    go_simp
                                    with_reducible rfl
                                  rotate_left
                                  · simp only [Act.put, List.setIfInBounds_toArray, List.set_cons_zero, List.set_cons_succ, i64_w, i32_w]
                                    rfl
                                  refine pure_ (i := 13) (N := some 109) (v := ?_) (a' := ?_) #[true, true, true, true, true, true, true, true, true, true, true, true, true, true, false, false, false, false, false, false, false, false, false] rfl rfl (any_of HT_.out (by kernel_rfl)) (fun _ _ _ h => h) (Or.inl ⟨by rfl, ?_⟩) ?_ ?_
                                  rotate_left
                                  · intro w'
                                    go_simp
                                    with_reducible rfl
                                  rotate_left
                                  · simp only [Act.put, List.setIfInBounds_toArray, List.set_cons_zero, List.set_cons_succ, i64_w, i32_w]
                                    rfl
                                  refine pure_ (i := 14) (N := some 110) (v := ?_) (a' := ?_) #[true, true, true, true, true, true, true, true, true, true, true, true, true, true, true, false, false, false, false, false, false, false, false] rfl rfl (any_of HT_.out (by kernel_rfl)) (fun _ _ _ h => h) (Or.inl ⟨by rfl, ?_⟩) ?_ ?_
                                  rotate_left
                                  · intro w'
                                    go_simp
                                    with_reducible rfl
                                  rotate_left
                                  · simp only [Act.put, List.setIfInBounds_toArray, List.set_cons_zero, List.set_cons_succ, i64_w, i32_w]
                                    rfl
                                  refine pure_ (i := 15) (N := some 111) (v := ?_) (a' := ?_) #[true, true, true, true, true, true, true, true, true, true, true, true, true, true, true, true, false, false, false, false, false, false, false] rfl rfl (any_of HT_.out (by kernel_rfl)) (fun _ _ _ h => h) (Or.inl ⟨by rfl, ?_⟩) ?_ ?_
                                  rotate_left
                                  · intro w'
                                    go_simp
                                    with_reducible rfl
                                  rotate_left
                                  · simp only [Act.put, List.setIfInBounds_toArray, List.set_cons_zero, List.set_cons_succ, i64_w, i32_w]
                                    rfl
                                  refine pure_ (i := 16) (N := some 112) (v := ?_) (a' := ?_) #[true, true, true, true, true, true, true, true, true, true, true, true, true, true, true, true, true, false, false, false, false, false, false] rfl rfl (any_of HT_.out (by kernel_rfl)) (fun _ _ _ h => h) (Or.inl ⟨by rfl, ?_⟩) ?_ ?_
                                  rotate_left
                                  · intro w'
                                    go_simp
                                    with_reducible rfl
                                  rotate_left
                                  · simp only [Act.put, List.setIfInBounds_toArray, List.set_cons_zero, List.set_cons_succ, i64_w, i32_w]
                                    rfl
                                  refine pure_ (i := 18) (N := some 114) (v := ?_) (a' := ?_) #[true, true, true, true, true, true, true, true, true, true, true, true, true, true, true, true, true, false, true, false, false, false, false] rfl rfl (any_of HT_.out (by kernel_rfl)) (fun _ _ _ h => h) (Or.inl ⟨by rfl, ?_⟩) ?_ ?_
                                  rotate_left
                                  · intro w'
                                    go_simp
                                    with_reducible rfl
                                  rotate_left
                                  · simp only [Act.put, List.setIfInBounds_toArray, List.set_cons_zero, List.set_cons_succ, i64_w, i32_w]
                                    rfl
                                  refine take_ (i := 17) (N := some 113) (v := ?_) (a' := ?_) #[true, true, true, true, true, true, true, true, true, true, true, true, true, true, true, true, true, true, true, false, false, false, false] rfl rfl (take_ofW HT_.out HW_.out (by kernel_rfl)) (fun _ _ _ h => h) (Or.inl ⟨by rfl, ?_⟩) hHeld ?_ ?_
                                  rotate_left
                                  · rintro w' ⟨s0, s1, s2, s3, s4, s5, s6, s7, s8, s9, s10, s11⟩
                                    go_simp
                                    with_reducible rfl
                                  rotate_left
                                  · simp only [Act.put, List.setIfInBounds_toArray, List.set_cons_zero, List.set_cons_succ, i64_w, i32_w]
                                    rfl
                                  refine take_ (i := 19) (N := some 115) (v := ?_) (a' := ?_) #[true, true, true, true, true, true, true, true, true, true, true, true, true, true, true, true, true, true, true, true, false, false, false] rfl rfl (take_ofW HT_.out HW_.out (by kernel_rfl)) (fun _ _ _ h => h) (Or.inl ⟨by rfl, ?_⟩) hHeld ?_ ?_
                                  rotate_left
                                  · rintro w' ⟨s0, s1, s2, s3, s4, s5, s6, s7, s8, s9, s10, s11⟩
                                    go_simp
                                    with_reducible rfl
                                  rotate_left
                                  · simp only [Act.put, List.setIfInBounds_toArray, List.set_cons_zero, List.set_cons_succ, i64_w, i32_w]
                                    rfl
                                  refine one_ (i := 20) (N := some 116) #[true, true, true, true, true, true, true, true, true, true, true, true, true, true, true, true, true, true, true, true, true, false, false] rfl rfl (one_of HT_.out (by kernel_rfl)) (by decide) (fun K hK => ?_)
                                  refine goes_ Try.func10 (by kernel_rfl) rfl #[.slice A303_0 ((rd_T27 t261 x16_2).f0).length c303_0, .slice A264_0 ((rd_T27 t261 (ji6)).f0).length c264_0] (by rfl) rfl rfl (by (try simp only [List.map_toArray, List.map_cons, List.map_nil]); first | done | rfl | (simp only [List.length_drop, List.length_take]; rfl)) ?_
                                  with_reducible refine (sobriquetkeep_Ints.calls k2 _ _ ((rd_T27 t261 x16_2).f0) _ _ ((rd_T27 t261 (ji6)).f0) false _ ?side1 ?side2 ?side3 ?side4 A65.out).mono ?_
                                  (case side1 => repeat (first | exact (by repeat (first | (with_reducible exact HR304_0.out) | (with_reducible refine Kd.C_alloc ?_ _) | (with_reducible refine Kd.C_drewN ?_ _) | (with_reducible refine Kd.C_drew ?_) | exact HR304_0.out)) | (with_reducible refine Kd.C_alloc ?_ _) | (with_reducible refine Kd.C_drewN ?_ _) | (with_reducible refine Kd.C_drew ?_)))
                                  (case side2 => exact HC304_0.out)
                                  (case side3 => repeat (first | exact (Kd.C_below C0_0.out HB.out.2) | (with_reducible refine Kd.C_alloc ?_ _) | (with_reducible refine Kd.C_drewN ?_ _) | (with_reducible refine Kd.C_drew ?_)))
                                  (case side4 => exact HC264_0.out)
                                  rintro e w' ⟨rfl, ⟨nd, rfl⟩⟩
                                  refine ⟨_, rfl, ?_⟩
                                  refine hK.out _ _ ⟨(blk_cell BK265.out 0).trans rfl, (blk_cell BK265.out 1).trans rfl, (blk_cell BK265.out 2).trans rfl, (blk_cell BK265.out 3).trans rfl, hHeld.2.2.2.2.1, hHeld.2.2.2.2.2.1, hHeld.2.2.2.2.2.2.1, hHeld.2.2.2.2.2.2.2.1, hHeld.2.2.2.2.2.2.2.2.1, hHeld.2.2.2.2.2.2.2.2.2.1, hHeld.2.2.2.2.2.2.2.2.2.2.1, hHeld.2.2.2.2.2.2.2.2.2.2.2⟩ (fun hHeld => ?_)
                                  clear hK K
                                  refine norm_ (a' := ?_) ?_ ?_
                                  rotate_left
                                  · show Act.put _ (some 116) _ = _
                                    simp only [Act.put, List.setIfInBounds_toArray, List.set_cons_zero, List.set_cons_succ, i64_w, i32_w]
                                    rfl
                                  refine pure_ (i := 21) (N := some 117) (v := ?_) (a' := ?_) #[true, true, true, true, true, true, true, true, true, true, true, true, true, true, true, true, true, true, true, true, true, true, false] rfl rfl (any_of HT_.out (by kernel_rfl)) (fun _ _ _ h => h) (Or.inl ⟨by rfl, ?_⟩) ?_ ?_
                                  rotate_left
                                  · intro w'
                                    go_simp
                                    with_reducible rfl
                                  rotate_left
                                  · simp only [Act.put, List.setIfInBounds_toArray, List.set_cons_zero, List.set_cons_succ, i64_w, i32_w]
                                    rfl
                                  refine pure_ (i := 22) (N := some 118) (v := ?_) (a' := ?_) #[true, true, true, true, true, true, true, true, true, true, true, true, true, true, true, true, true, true, true, true, true, true, true] rfl rfl (any_of HT_.out (by kernel_rfl)) (fun _ _ _ h => h) (Or.inl ⟨by rfl, ?_⟩) ?_ ?_
                                  rotate_left
                                  · intro w'
                                    go_simp
                                    with_reducible rfl
                                  rotate_left
                                  · simp only [Act.put, List.setIfInBounds_toArray, List.set_cons_zero, List.set_cons_succ, i64_w, i32_w]
                                    rfl
                                  refine done_ (done_of HT_.out (by kernel_rfl)) ?_
                                  try go_wp2
                                  go_roundg k2
                                  case measure => have := HK1.out; have := HK2.out; omega
                                  case rel => exact ⟨(wrap64 (x16_2 + 1)), (by first | rfl | (simp; done) | (simp [*]; done)), H', ⟨by have := HK1.out; have := HK2.out; omega⟩, ⟨by (with_reducible repeat (first | apply Kd.N_alloc | apply Kd.N_drewN | apply Kd.N_drew)); exact HO_5.out⟩, ⟨by (with_reducible repeat (first | apply Kd.V_alloc | apply Kd.V_drewN | apply Kd.V_drew)); exact HO_283000.out⟩, ⟨by (with_reducible repeat (first | apply Kd.R_alloc | apply Kd.R_drewN | apply Kd.R_drew | apply KB.R_alloc | apply KB.R_drewN | apply KB.R_drew)); exact HO_283003.out⟩, ⟨by (with_reducible repeat (first | apply Kd.V_alloc | apply Kd.V_drewN | apply Kd.V_drew)); exact HO_293000.out⟩, ⟨by (with_reducible repeat (first | apply Kd.R_alloc | apply Kd.R_drewN | apply Kd.R_drew | apply KB.R_alloc | apply KB.R_drewN | apply KB.R_drew)); exact HO_293003.out⟩, ⟨by (with_reducible repeat (first | apply Kd.V_alloc | apply Kd.V_drewN | apply Kd.V_drew)); exact HO_303000.out⟩, ⟨by (with_reducible repeat (first | apply Kd.R_alloc | apply Kd.R_drewN | apply Kd.R_drew | apply KB.R_alloc | apply KB.R_drewN | apply KB.R_drew)); exact HO_303003.out⟩, ⟨by (with_reducible repeat (first | refine blk_drewN ?_ _ | refine blk_drew ?_ | refine blk_alloc ?_ _)); exact BK265.out⟩, ⟨by (with_reducible repeat (first | refine blk_drewN ?_ _ | refine blk_drew ?_ | refine blk_alloc ?_ _)); exact BK282.out⟩, ⟨by (with_reducible repeat (first | refine blk_drewN ?_ _ | refine blk_drew ?_ | refine blk_alloc ?_ _)); exact BK292.out⟩, ⟨by (with_reducible repeat (first | refine blk_drewN ?_ _ | refine blk_drew ?_ | refine blk_alloc ?_ _)); exact BK302.out⟩, ⟨by repeat (first | (with_reducible first | exact HB.out | apply KB.bb_alloc | apply KB.bb_drewN | apply KB.bb_drew1 | refine KB.bb_set ?_ GE265.out | refine KB.bb_set ?_ GE282.out | refine KB.bb_set ?_ GE292.out | refine KB.bb_set ?_ GE302.out) | exact HB.out)⟩⟩
                            · rw [if_neg c63] at H
                              exact absurd H (by simp)
                        · rw [if_neg c60] at H
                          have c60b0 : decide (x16_2 < (t261.length : Int)) = false := decide_eq_false c60
                          clear c60
                          by_cases c68 : t281 = true
                          · subst c68
                            have H1 : (if t291 = true then (if t301 = true then (some false) else ((sobriquetkeep_Attr.f k2 t273 t276 t277 t278 ((rd_T27 t261 (ji6)).f0) ((rd_T27 t261 (ji6)).f1) ((rd_T27 t261 (ji6)).f2) ((rd_T27 t261 (ji6)).f3)).bind fun t306 => (if t306 = true then ((sobriquetkeep_Attr.f k2 t283 t286 t287 t288 ((rd_T27 t261 (ji6)).f0) ((rd_T27 t261 (ji6)).f1) ((rd_T27 t261 (ji6)).f2) ((rd_T27 t261 (ji6)).f3)).bind fun t307 => (if t307 = true then ((attr_Rule.f k2 ((rd_T27 t261 (ji6)).f0)).bind fun t308 => (if t308 = ((rd_T27 t261 (ji6)).f2) then ((attr_Kinds.f k2 ((rd_T27 t261 (ji6)).f0)).bind fun t309 => ((sobriquetkeep_Ints.f k2 t309 ((rd_T27 t261 (ji6)).f3)).bind fun t312 => (if t312 = true then ((sobriquetlaw22_wakes.f k2).bind fun t313 => (some t313)) else (some false)))) else (some false))) else (some false))) else (some false)))) else (some false)) = some r := by rw [if_pos rfl] at H; exact H
                            clear H
                            have H := H1
                            clear H1
                            by_cases c69 : t291 = true
                            · subst c69
                              have H1 : (if t301 = true then (some false) else ((sobriquetkeep_Attr.f k2 t273 t276 t277 t278 ((rd_T27 t261 (ji6)).f0) ((rd_T27 t261 (ji6)).f1) ((rd_T27 t261 (ji6)).f2) ((rd_T27 t261 (ji6)).f3)).bind fun t306 => (if t306 = true then ((sobriquetkeep_Attr.f k2 t283 t286 t287 t288 ((rd_T27 t261 (ji6)).f0) ((rd_T27 t261 (ji6)).f1) ((rd_T27 t261 (ji6)).f2) ((rd_T27 t261 (ji6)).f3)).bind fun t307 => (if t307 = true then ((attr_Rule.f k2 ((rd_T27 t261 (ji6)).f0)).bind fun t308 => (if t308 = ((rd_T27 t261 (ji6)).f2) then ((attr_Kinds.f k2 ((rd_T27 t261 (ji6)).f0)).bind fun t309 => ((sobriquetkeep_Ints.f k2 t309 ((rd_T27 t261 (ji6)).f3)).bind fun t312 => (if t312 = true then ((sobriquetlaw22_wakes.f k2).bind fun t313 => (some t313)) else (some false)))) else (some false))) else (some false))) else (some false)))) = some r := by rw [if_pos rfl] at H; exact H
                              clear H
                              have H := H1
                              clear H1
                              by_cases c70 : t301 = true
                              · subst c70
                                have H1 : (some false) = some r := by rw [if_pos rfl] at H; exact H
                                clear H
                                have H := H1
                                clear H1
                                exact absurd ((Option.some.inj H).trans hrt.out) (by decide)
                              · replace c70 := Bool.eq_false_iff.mpr c70
                                subst c70
                                have H1 : ((sobriquetkeep_Attr.f k2 t273 t276 t277 t278 ((rd_T27 t261 (ji6)).f0) ((rd_T27 t261 (ji6)).f1) ((rd_T27 t261 (ji6)).f2) ((rd_T27 t261 (ji6)).f3)).bind fun t306 => (if t306 = true then ((sobriquetkeep_Attr.f k2 t283 t286 t287 t288 ((rd_T27 t261 (ji6)).f0) ((rd_T27 t261 (ji6)).f1) ((rd_T27 t261 (ji6)).f2) ((rd_T27 t261 (ji6)).f3)).bind fun t307 => (if t307 = true then ((attr_Rule.f k2 ((rd_T27 t261 (ji6)).f0)).bind fun t308 => (if t308 = ((rd_T27 t261 (ji6)).f2) then ((attr_Kinds.f k2 ((rd_T27 t261 (ji6)).f0)).bind fun t309 => ((sobriquetkeep_Ints.f k2 t309 ((rd_T27 t261 (ji6)).f3)).bind fun t312 => (if t312 = true then ((sobriquetlaw22_wakes.f k2).bind fun t313 => (some t313)) else (some false)))) else (some false))) else (some false))) else (some false))) = some r := by rw [if_neg (show ¬ (false = true) by decide)] at H; exact H
                                clear H
                                have H := H1
                                clear H1
                                replace H := Option.bind_eq_some_iff.mp H
                                obtain ⟨t306, A710, H⟩ := H
                                replace H : (if t306 = true then ((sobriquetkeep_Attr.f k2 t283 t286 t287 t288 ((rd_T27 t261 (ji6)).f0) ((rd_T27 t261 (ji6)).f1) ((rd_T27 t261 (ji6)).f2) ((rd_T27 t261 (ji6)).f3)).bind fun t307 => (if t307 = true then ((attr_Rule.f k2 ((rd_T27 t261 (ji6)).f0)).bind fun t308 => (if t308 = ((rd_T27 t261 (ji6)).f2) then ((attr_Kinds.f k2 ((rd_T27 t261 (ji6)).f0)).bind fun t309 => ((sobriquetkeep_Ints.f k2 t309 ((rd_T27 t261 (ji6)).f3)).bind fun t312 => (if t312 = true then ((sobriquetlaw22_wakes.f k2).bind fun t313 => (some t313)) else (some false)))) else (some false))) else (some false))) else (some false)) = some r := H
                                have A71 := Aside0.mk A710
                                clear A710
                                by_cases c72 : t306 = true
                                · subst c72
                                  have H1 : ((sobriquetkeep_Attr.f k2 t283 t286 t287 t288 ((rd_T27 t261 (ji6)).f0) ((rd_T27 t261 (ji6)).f1) ((rd_T27 t261 (ji6)).f2) ((rd_T27 t261 (ji6)).f3)).bind fun t307 => (if t307 = true then ((attr_Rule.f k2 ((rd_T27 t261 (ji6)).f0)).bind fun t308 => (if t308 = ((rd_T27 t261 (ji6)).f2) then ((attr_Kinds.f k2 ((rd_T27 t261 (ji6)).f0)).bind fun t309 => ((sobriquetkeep_Ints.f k2 t309 ((rd_T27 t261 (ji6)).f3)).bind fun t312 => (if t312 = true then ((sobriquetlaw22_wakes.f k2).bind fun t313 => (some t313)) else (some false)))) else (some false))) else (some false))) = some r := by rw [if_pos rfl] at H; exact H
                                  clear H
                                  have H := H1
                                  clear H1
                                  replace H := Option.bind_eq_some_iff.mp H
                                  obtain ⟨t307, A730, H⟩ := H
                                  replace H : (if t307 = true then ((attr_Rule.f k2 ((rd_T27 t261 (ji6)).f0)).bind fun t308 => (if t308 = ((rd_T27 t261 (ji6)).f2) then ((attr_Kinds.f k2 ((rd_T27 t261 (ji6)).f0)).bind fun t309 => ((sobriquetkeep_Ints.f k2 t309 ((rd_T27 t261 (ji6)).f3)).bind fun t312 => (if t312 = true then ((sobriquetlaw22_wakes.f k2).bind fun t313 => (some t313)) else (some false)))) else (some false))) else (some false)) = some r := H
                                  have A73 := Aside0.mk A730
                                  clear A730
                                  by_cases c74 : t307 = true
                                  · subst c74
                                    have H1 : ((attr_Rule.f k2 ((rd_T27 t261 (ji6)).f0)).bind fun t308 => (if t308 = ((rd_T27 t261 (ji6)).f2) then ((attr_Kinds.f k2 ((rd_T27 t261 (ji6)).f0)).bind fun t309 => ((sobriquetkeep_Ints.f k2 t309 ((rd_T27 t261 (ji6)).f3)).bind fun t312 => (if t312 = true then ((sobriquetlaw22_wakes.f k2).bind fun t313 => (some t313)) else (some false)))) else (some false))) = some r := by rw [if_pos rfl] at H; exact H
                                    clear H
                                    have H := H1
                                    clear H1
                                    replace H := Option.bind_eq_some_iff.mp H
                                    obtain ⟨t308, A750, H⟩ := H
                                    replace H : (if t308 = ((rd_T27 t261 (ji6)).f2) then ((attr_Kinds.f k2 ((rd_T27 t261 (ji6)).f0)).bind fun t309 => ((sobriquetkeep_Ints.f k2 t309 ((rd_T27 t261 (ji6)).f3)).bind fun t312 => (if t312 = true then ((sobriquetlaw22_wakes.f k2).bind fun t313 => (some t313)) else (some false)))) else (some false)) = some r := H
                                    have A75 := Aside0.mk A750
                                    clear A750
                                    by_cases c76 : t308 = ((rd_T27 t261 (ji6)).f2)
                                    · rw [if_pos c76] at H
                                      have c76b0 : (t308 == ((rd_T27 t261 (ji6)).f2)) = true := beq_iff_eq.mpr c76
                                      have c76b1 : (t308 != ((rd_T27 t261 (ji6)).f2)) = false := bne_eq_false_iff_eq.mpr c76
                                      clear c76
                                      replace H := Option.bind_eq_some_iff.mp H
                                      obtain ⟨t309, A770, H⟩ := H
                                      replace H : ((sobriquetkeep_Ints.f k2 t309 ((rd_T27 t261 (ji6)).f3)).bind fun t312 => (if t312 = true then ((sobriquetlaw22_wakes.f k2).bind fun t313 => (some t313)) else (some false))) = some r := H
                                      have A77 := Aside0.mk A770
                                      clear A770
                                      replace H := Option.bind_eq_some_iff.mp H
                                      obtain ⟨t312, A780, H⟩ := H
                                      replace H : (if t312 = true then ((sobriquetlaw22_wakes.f k2).bind fun t313 => (some t313)) else (some false)) = some r := H
                                      have A78 := Aside0.mk A780
                                      clear A780
                                      by_cases c79 : t312 = true
                                      · subst c79
                                        have H1 : ((sobriquetlaw22_wakes.f k2).bind fun t313 => (some t313)) = some r := by rw [if_pos rfl] at H; exact H
                                        clear H
                                        have H := H1
                                        clear H1
                                        replace H := Option.bind_eq_some_iff.mp H
                                        obtain ⟨t313, A800, H⟩ := H
                                        replace H : (some t313) = some r := H
                                        have A80 := Aside0.mk A800
                                        clear A800
                                        obtain rfl := Option.some.inj H
                                        try go_wp2
                                        have n0_ := Aside0.mk (Kd.N_drew HO_5.out)
                                        have n1_ := Aside0.mk (Kd.V_drew HO_283000.out)
                                        have n2_ := Aside0.mk (Kd.R_drew HO_283003.out)
                                        have n3_ := Aside0.mk (Kd.V_drew HO_293000.out)
                                        have n4_ := Aside0.mk (Kd.R_drew HO_293003.out)
                                        have n5_ := Aside0.mk (Kd.V_drew HO_303000.out)
                                        have n6_ := Aside0.mk (Kd.R_drew HO_303003.out)
                                        have n7_ := Aside0.mk (blk_drew BK265.out)
                                        have n8_ := Aside0.mk (blk_drew BK282.out)
                                        have n9_ := Aside0.mk (blk_drew BK292.out)
                                        have n10_ := Aside0.mk (blk_drew BK302.out)
                                        have n11_ := Aside0.mk (KB.bb_drew1 HB.out)
                                        clear HO_5
                                        clear HO_283000
                                        clear HO_283003
                                        clear HO_293000
                                        clear HO_293003
                                        clear HO_303000
                                        clear HO_303003
                                        clear BK265
                                        clear BK282
                                        clear BK292
                                        clear BK302
                                        clear HB
                                        have HO_5 := n0_
                                        have HO_283000 := n1_
                                        have HO_283003 := n2_
                                        have HO_293000 := n3_
                                        have HO_293003 := n4_
                                        have HO_303000 := n5_
                                        have HO_303003 := n6_
                                        have BK265 := n7_
                                        have BK282 := n8_
                                        have BK292 := n9_
                                        have BK302 := n10_
                                        have HB := n11_
                                        clear n0_ n1_ n2_ n3_ n4_ n5_ n6_ n7_ n8_ n9_ n10_ n11_
                                        refine start_ (n := 38) (S := fun w' => w'.cell? ⟨gb282, 0, none⟩ = some (.slice Ao39 t273.length co39) ∧ w'.cell? ⟨gb282, 1, none⟩ = some (.string t276) ∧ w'.cell? ⟨gb282, 2, none⟩ = some (.int .i64 t277) ∧ w'.cell? ⟨gb282, 3, none⟩ = some (.slice Ao42 t278.length co42) ∧ w'.cell? ⟨gb265, 0, none⟩ = some (.slice A264_0 ((rd_T27 t261 (ji6)).f0).length c264_0) ∧ w'.cell? ⟨gb265, 1, none⟩ = some (.string ((rd_T27 t261 (ji6)).f1)) ∧ w'.cell? ⟨gb265, 2, none⟩ = some (.int .i64 ((rd_T27 t261 (ji6)).f2)) ∧ w'.cell? ⟨gb265, 3, none⟩ = some (.slice A264_3 ((rd_T27 t261 (ji6)).f3).length c264_3) ∧ w'.cell? ⟨gb292, 0, none⟩ = some (.slice Ao46 t283.length co46) ∧ w'.cell? ⟨gb292, 1, none⟩ = some (.string t286) ∧ w'.cell? ⟨gb292, 2, none⟩ = some (.int .i64 t287) ∧ w'.cell? ⟨gb292, 3, none⟩ = some (.slice Ao50 t288.length co50)) (ds := []) #[false, false, false, false, false, false, false, false, false, false, false, false, false, false, false, false, false, false, false, false, false, false, false, false, false, false, false, false, false, false, false, false, false, false, false, false, false, false] (by kernel_rfl) rfl rfl ⟨(blk_cell BK282.out 0).trans rfl, (blk_cell BK282.out 1).trans rfl, (blk_cell BK282.out 2).trans rfl, (blk_cell BK282.out 3).trans rfl, (blk_cell BK265.out 0).trans rfl, (blk_cell BK265.out 1).trans rfl, (blk_cell BK265.out 2).trans rfl, (blk_cell BK265.out 3).trans rfl, (blk_cell BK292.out 0).trans rfl, (blk_cell BK292.out 1).trans rfl, (blk_cell BK292.out 2).trans rfl, (blk_cell BK292.out 3).trans rfl⟩ (fun hHeld => ?_); refine with_tabW sobriquetlaw22_AttrNames.tab20 sobriquetlaw22_AttrNames.bits20 (fun HT_ HW_ => ?_)
                                        generalize wr.drew = w81 at HO_5 HO_283000 HO_283003 HO_293000 HO_293003 HO_303000 HO_303003 BK265 BK282 BK292 BK302 HB hHeld ⊢
                                        refine pure_ (i := 0) (N := some 119) (v := ?_) (a' := ?_) #[true, false, false, false, false, false, false, false, false, false, false, false, false, false, false, false, false, false, false, false, false, false, false, false, false, false, false, false, false, false, false, false, false, false, false, false, false, false] rfl rfl (any_of HT_.out (by kernel_rfl)) (fun _ _ _ h => h) (Or.inl ⟨by rfl, ?_⟩) ?_ ?_
                                        rotate_left
                                        · intro w'
                                          go_simp
                                          with_reducible rfl
                                        rotate_left
                                        · simp only [Act.put, List.setIfInBounds_toArray, List.set_cons_zero, List.set_cons_succ, i64_w, i32_w]
                                          rfl
                                        refine pure_ (i := 1) (N := some 120) (v := ?_) (a' := ?_) #[true, true, false, false, false, false, false, false, false, false, false, false, false, false, false, false, false, false, false, false, false, false, false, false, false, false, false, false, false, false, false, false, false, false, false, false, false, false] rfl rfl (any_of HT_.out (by kernel_rfl)) (fun _ _ _ h => h) (Or.inl ⟨by rfl, ?_⟩) ?_ ?_
                                        rotate_left
                                        · intro w'
                                          go_simp
                                          with_reducible rfl
                                        rotate_left
                                        · simp only [Act.put, List.setIfInBounds_toArray, List.set_cons_zero, List.set_cons_succ, i64_w, i32_w]
                                          rfl
                                        refine pure_ (i := 2) (N := some 121) (v := ?_) (a' := ?_) #[true, true, true, false, false, false, false, false, false, false, false, false, false, false, false, false, false, false, false, false, false, false, false, false, false, false, false, false, false, false, false, false, false, false, false, false, false, false] rfl rfl (any_of HT_.out (by kernel_rfl)) (fun _ _ _ h => h) (Or.inl ⟨by rfl, ?_⟩) ?_ ?_
                                        rotate_left
                                        · intro w'
                                          go_simp
                                          with_reducible rfl
                                        rotate_left
                                        · simp only [Act.put, List.setIfInBounds_toArray, List.set_cons_zero, List.set_cons_succ, i64_w, i32_w]
                                          rfl
                                        refine pure_ (i := 3) (N := some 122) (v := ?_) (a' := ?_) #[true, true, true, true, false, false, false, false, false, false, false, false, false, false, false, false, false, false, false, false, false, false, false, false, false, false, false, false, false, false, false, false, false, false, false, false, false, false] rfl rfl (any_of HT_.out (by kernel_rfl)) (fun _ _ _ h => h) (Or.inl ⟨by rfl, ?_⟩) ?_ ?_
                                        rotate_left
                                        · intro w'
                                          go_simp
                                          with_reducible rfl
                                        rotate_left
                                        · simp only [Act.put, List.setIfInBounds_toArray, List.set_cons_zero, List.set_cons_succ, i64_w, i32_w]
                                          rfl
                                        refine pure_ (i := 4) (N := some 123) (v := ?_) (a' := ?_) #[true, true, true, true, true, false, false, false, false, false, false, false, false, false, false, false, false, false, false, false, false, false, false, false, false, false, false, false, false, false, false, false, false, false, false, false, false, false] rfl rfl (any_of HT_.out (by kernel_rfl)) (fun _ _ _ h => h) (Or.inl ⟨by rfl, ?_⟩) ?_ ?_
                                        rotate_left
                                        · intro w'
                                          go_simp
                                          with_reducible rfl
                                        rotate_left
                                        · simp only [Act.put, List.setIfInBounds_toArray, List.set_cons_zero, List.set_cons_succ, i64_w, i32_w]
                                          rfl
                                        refine pure_ (i := 5) (N := some 124) (v := ?_) (a' := ?_) #[true, true, true, true, true, true, false, false, false, false, false, false, false, false, false, false, false, false, false, false, false, false, false, false, false, false, false, false, false, false, false, false, false, false, false, false, false, false] rfl rfl (any_of HT_.out (by kernel_rfl)) (fun _ _ _ h => h) (Or.inl ⟨by rfl, ?_⟩) ?_ ?_
                                        rotate_left
                                        · intro w'
                                          go_simp
                                          with_reducible rfl
                                        rotate_left
                                        · simp only [Act.put, List.setIfInBounds_toArray, List.set_cons_zero, List.set_cons_succ, i64_w, i32_w]
                                          rfl
                                        refine pure_ (i := 6) (N := some 125) (v := ?_) (a' := ?_) #[true, true, true, true, true, true, true, false, false, false, false, false, false, false, false, false, false, false, false, false, false, false, false, false, false, false, false, false, false, false, false, false, false, false, false, false, false, false] rfl rfl (any_of HT_.out (by kernel_rfl)) (fun _ _ _ h => h) (Or.inl ⟨by rfl, ?_⟩) ?_ ?_
                                        rotate_left
                                        · intro w'
                                          go_simp
                                          with_reducible rfl
                                        rotate_left
                                        · simp only [Act.put, List.setIfInBounds_toArray, List.set_cons_zero, List.set_cons_succ, i64_w, i32_w]
                                          rfl
                                        refine pure_ (i := 7) (N := some 126) (v := ?_) (a' := ?_) #[true, true, true, true, true, true, true, true, false, false, false, false, false, false, false, false, false, false, false, false, false, false, false, false, false, false, false, false, false, false, false, false, false, false, false, false, false, false] rfl rfl (any_of HT_.out (by kernel_rfl)) (fun _ _ _ h => h) (Or.inl ⟨by rfl, ?_⟩) ?_ ?_
                                        rotate_left
                                        · intro w'
                                          go_simp
                                          with_reducible rfl
                                        rotate_left
                                        · simp only [Act.put, List.setIfInBounds_toArray, List.set_cons_zero, List.set_cons_succ, i64_w, i32_w]
                                          rfl
                                        refine pure_ (i := 8) (N := some 127) (v := ?_) (a' := ?_) #[true, true, true, true, true, true, true, true, true, false, false, false, false, false, false, false, false, false, false, false, false, false, false, false, false, false, false, false, false, false, false, false, false, false, false, false, false, false] rfl rfl (any_of HT_.out (by kernel_rfl)) (fun _ _ _ h => h) (Or.inl ⟨by rfl, ?_⟩) ?_ ?_
                                        rotate_left
                                        · intro w'
                                          go_simp
                                          with_reducible rfl
                                        rotate_left
                                        · simp only [Act.put, List.setIfInBounds_toArray, List.set_cons_zero, List.set_cons_succ, i64_w, i32_w]
                                          rfl
                                        refine take_ (i := 9) (N := some 128) (v := ?_) (a' := ?_) #[true, true, true, true, true, true, true, true, true, true, false, false, false, false, false, false, false, false, false, false, false, false, false, false, false, false, false, false, false, false, false, false, false, false, false, false, false, false] rfl rfl (take_ofW HT_.out HW_.out (by kernel_rfl)) (fun _ _ _ h => h) (Or.inl ⟨by rfl, ?_⟩) hHeld ?_ ?_
                                        rotate_left
                                        · rintro w' ⟨s0, s1, s2, s3, s4, s5, s6, s7, s8, s9, s10, s11⟩
                                          go_simp
                                          with_reducible rfl
                                        rotate_left
                                        · simp only [Act.put, List.setIfInBounds_toArray, List.set_cons_zero, List.set_cons_succ, i64_w, i32_w]
                                          rfl
                                        refine take_ (i := 10) (N := some 129) (v := ?_) (a' := ?_) #[true, true, true, true, true, true, true, true, true, true, true, false, false, false, false, false, false, false, false, false, false, false, false, false, false, false, false, false, false, false, false, false, false, false, false, false, false, false] rfl rfl (take_ofW HT_.out HW_.out (by kernel_rfl)) (fun _ _ _ h => h) (Or.inl ⟨by rfl, ?_⟩) hHeld ?_ ?_
                                        rotate_left
                                        · rintro w' ⟨s0, s1, s2, s3, s4, s5, s6, s7, s8, s9, s10, s11⟩
                                          go_simp
                                          with_reducible rfl
                                        rotate_left
                                        · simp only [Act.put, List.setIfInBounds_toArray, List.set_cons_zero, List.set_cons_succ, i64_w, i32_w]
                                          rfl
                                        refine one_ (i := 11) (N := some 130) #[true, true, true, true, true, true, true, true, true, true, true, true, false, false, false, false, false, false, false, false, false, false, false, false, false, false, false, false, false, false, false, false, false, false, false, false, false, false] rfl rfl (one_of HT_.out (by kernel_rfl)) (by decide) (fun K hK => ?_)
                                        refine goes_ Try.func11 (by kernel_rfl) rfl #[.agg #[.slice Ao39 t273.length co39, .string t276, .int .i64 t277, .slice Ao42 t278.length co42], .agg #[.slice A264_0 ((rd_T27 t261 (ji6)).f0).length c264_0, .string ((rd_T27 t261 (ji6)).f1), .int .i64 ((rd_T27 t261 (ji6)).f2), .slice A264_3 ((rd_T27 t261 (ji6)).f3).length c264_3]] (by rfl) rfl rfl (by (try simp only [List.map_toArray, List.map_cons, List.map_nil]); first | done | (simp only [hji6]; rfl) | rfl | (simp only [List.length_drop, List.length_take]; rfl)) ?_
                                        with_reducible refine (sobriquetkeep_Attr.calls k2 _ _ t273 t276 t277 _ _ t278 _ _ ((rd_T27 t261 (ji6)).f0) ((rd_T27 t261 (ji6)).f1) ((rd_T27 t261 (ji6)).f2) _ _ ((rd_T27 t261 (ji6)).f3) true _ ?side1 ?side2 ?side3 ?side4 ?side5 ?side6 ?side7 ?side8 A71.out).mono ?_
                                        (case side1 => repeat (first | exact (Kd.V_reads' HO_283000.out).2.2 | (with_reducible refine Kd.C_alloc ?_ _) | (with_reducible refine Kd.C_drewN ?_ _) | (with_reducible refine Kd.C_drew ?_)))
                                        (case side2 => exact (Kd.V_reads' HO_283000.out).2.1)
                                        (case side3 => repeat (first | exact (Kd.R_reads' HO_283003.out).2.2 | (with_reducible refine Kd.C_alloc ?_ _) | (with_reducible refine Kd.C_drewN ?_ _) | (with_reducible refine Kd.C_drew ?_)))
                                        (case side4 => exact (Kd.R_reads' HO_283003.out).2.1)
                                        (case side5 => repeat (first | exact (Kd.C_below C0_0.out HB.out.2) | (with_reducible refine Kd.C_alloc ?_ _) | (with_reducible refine Kd.C_drewN ?_ _) | (with_reducible refine Kd.C_drew ?_)))
                                        (case side6 => exact HC264_0.out)
                                        (case side7 => repeat (first | exact (Kd.C_below C0_3.out HB.out.2) | (with_reducible refine Kd.C_alloc ?_ _) | (with_reducible refine Kd.C_drewN ?_ _) | (with_reducible refine Kd.C_drew ?_)))
                                        (case side8 => exact HC264_3.out)
                                        rintro e w82 ⟨rfl, hb⟩
                                        refine ⟨_, rfl, ?_⟩
                                        have n0_ := Aside0.mk (Kd.N_below (by (with_reducible repeat (first | apply Kd.N_alloc | apply Kd.N_drewN | apply Kd.N_drew)); exact HO_5.out) hb)
                                        have n1_ := Aside0.mk (Kd.V_below (by (with_reducible repeat (first | apply Kd.V_alloc | apply Kd.V_drewN | apply Kd.V_drew)); exact HO_283000.out) hb)
                                        have n2_ := Aside0.mk (Kd.R_below (by (with_reducible repeat (first | apply Kd.R_alloc | apply Kd.R_drewN | apply Kd.R_drew | apply KB.R_alloc | apply KB.R_drewN | apply KB.R_drew)); exact HO_283003.out) hb)
                                        have n3_ := Aside0.mk (Kd.V_below (by (with_reducible repeat (first | apply Kd.V_alloc | apply Kd.V_drewN | apply Kd.V_drew)); exact HO_293000.out) hb)
                                        have n4_ := Aside0.mk (Kd.R_below (by (with_reducible repeat (first | apply Kd.R_alloc | apply Kd.R_drewN | apply Kd.R_drew | apply KB.R_alloc | apply KB.R_drewN | apply KB.R_drew)); exact HO_293003.out) hb)
                                        have n5_ := Aside0.mk (Kd.V_below (by (with_reducible repeat (first | apply Kd.V_alloc | apply Kd.V_drewN | apply Kd.V_drew)); exact HO_303000.out) hb)
                                        have n6_ := Aside0.mk (Kd.R_below (by (with_reducible repeat (first | apply Kd.R_alloc | apply Kd.R_drewN | apply Kd.R_drew | apply KB.R_alloc | apply KB.R_drewN | apply KB.R_drew)); exact HO_303003.out) hb)
                                        have n7_ := Aside0.mk (blk_below (g := gb265) (o := .cells #[.slice A264_0 ((rd_T27 t261 (ji6)).f0).length c264_0, .string ((rd_T27 t261 (ji6)).f1), .int .i64 ((rd_T27 t261 (ji6)).f2), .slice A264_3 ((rd_T27 t261 (ji6)).f3).length c264_3] 27 (0, 0)) (by (with_reducible repeat (first | refine blk_drewN ?_ _ | refine blk_drew ?_ | refine blk_alloc ?_ _)); exact BK265.out) hb)
                                        have n8_ := Aside0.mk (blk_below (g := gb282) (o := .cells #[.slice Ao39 t273.length co39, .string t276, .int .i64 t277, .slice Ao42 t278.length co42] 27 (0, 0)) (by (with_reducible repeat (first | refine blk_drewN ?_ _ | refine blk_drew ?_ | refine blk_alloc ?_ _)); exact BK282.out) hb)
                                        have n9_ := Aside0.mk (blk_below (g := gb292) (o := .cells #[.slice Ao46 t283.length co46, .string t286, .int .i64 t287, .slice Ao50 t288.length co50] 27 (0, 0)) (by (with_reducible repeat (first | refine blk_drewN ?_ _ | refine blk_drew ?_ | refine blk_alloc ?_ _)); exact BK292.out) hb)
                                        have n10_ := Aside0.mk (blk_below (g := gb302) (o := .cells #[.slice Ao54 t293.length co54, .string t296, .int .i64 t297, .slice Ao59 t298.length co59] 27 (0, 0)) (by (with_reducible repeat (first | refine blk_drewN ?_ _ | refine blk_drew ?_ | refine blk_alloc ?_ _)); exact BK302.out) hb)
                                        have n11_ := Aside0.mk (KB.bb_step (by repeat (first | (with_reducible first | exact HB.out | apply KB.bb_alloc | apply KB.bb_drewN | apply KB.bb_drew1 | refine KB.bb_set ?_ GE265.out | refine KB.bb_set ?_ GE282.out | refine KB.bb_set ?_ GE292.out | refine KB.bb_set ?_ GE302.out) | exact HB.out)) hb)
                                        clear HO_5
                                        clear HO_283000
                                        clear HO_283003
                                        clear HO_293000
                                        clear HO_293003
                                        clear HO_303000
                                        clear HO_303003
                                        clear BK265
                                        clear BK282
                                        clear BK292
                                        clear BK302
                                        clear HB
                                        have HO_5 := n0_
                                        have HO_283000 := n1_
                                        have HO_283003 := n2_
                                        have HO_293000 := n3_
                                        have HO_293003 := n4_
                                        have HO_303000 := n5_
                                        have HO_303003 := n6_
                                        have BK265 := n7_
                                        have BK282 := n8_
                                        have BK292 := n9_
                                        have BK302 := n10_
                                        have HB := n11_
                                        clear n0_ n1_ n2_ n3_ n4_ n5_ n6_ n7_ n8_ n9_ n10_ n11_
                                        (try clear hb)
                                        (try clear hb2)
                                        (try clear hk)
                                        (try clear hi)
                                        refine hK.out _ _ ⟨(blk_cell BK282.out 0).trans rfl, (blk_cell BK282.out 1).trans rfl, (blk_cell BK282.out 2).trans rfl, (blk_cell BK282.out 3).trans rfl, (blk_cell BK265.out 0).trans rfl, (blk_cell BK265.out 1).trans rfl, (blk_cell BK265.out 2).trans rfl, (blk_cell BK265.out 3).trans rfl, (blk_cell BK292.out 0).trans rfl, (blk_cell BK292.out 1).trans rfl, (blk_cell BK292.out 2).trans rfl, (blk_cell BK292.out 3).trans rfl⟩ (fun hHeld => ?_)
                                        clear hK K
                                        refine norm_ (a' := ?_) ?_ ?_
                                        rotate_left
                                        · show Act.put _ (some 130) _ = _
                                          simp only [Act.put, List.setIfInBounds_toArray, List.set_cons_zero, List.set_cons_succ, i64_w, i32_w]
                                          rfl
                                        refine pure_ (i := 12) (N := some 131) (v := ?_) (a' := ?_) #[true, true, true, true, true, true, true, true, true, true, true, true, true, false, false, false, false, false, false, false, false, false, false, false, false, false, false, false, false, false, false, false, false, false, false, false, false, false] rfl rfl (any_of HT_.out (by kernel_rfl)) (fun _ _ _ h => h) (Or.inl ⟨by rfl, ?_⟩) ?_ ?_
                                        rotate_left
                                        · intro w'
                                          go_simp
                                          with_reducible rfl
                                        rotate_left
                                        · simp only [Act.put, List.setIfInBounds_toArray, List.set_cons_zero, List.set_cons_succ, i64_w, i32_w]
                                          rfl
                                        refine pure_ (i := 13) (N := some 132) (v := ?_) (a' := ?_) #[true, true, true, true, true, true, true, true, true, true, true, true, true, true, false, false, false, false, false, false, false, false, false, false, false, false, false, false, false, false, false, false, false, false, false, false, false, false] rfl rfl (any_of HT_.out (by kernel_rfl)) (fun _ _ _ h => h) (Or.inl ⟨by rfl, ?_⟩) ?_ ?_
                                        rotate_left
                                        · intro w'
                                          go_simp
                                          with_reducible rfl
                                        rotate_left
                                        · simp only [Act.put, List.setIfInBounds_toArray, List.set_cons_zero, List.set_cons_succ, i64_w, i32_w]
                                          rfl
                                        refine take_ (i := 14) (N := some 133) (v := ?_) (a' := ?_) #[true, true, true, true, true, true, true, true, true, true, true, true, true, true, true, false, false, false, false, false, false, false, false, false, false, false, false, false, false, false, false, false, false, false, false, false, false, false] rfl rfl (take_ofW HT_.out HW_.out (by kernel_rfl)) (fun _ _ _ h => h) (Or.inl ⟨by rfl, ?_⟩) hHeld ?_ ?_
                                        rotate_left
                                        · rintro w' ⟨s0, s1, s2, s3, s4, s5, s6, s7, s8, s9, s10, s11⟩
                                          go_simp
                                          with_reducible rfl
                                        rotate_left
                                        · simp only [Act.put, List.setIfInBounds_toArray, List.set_cons_zero, List.set_cons_succ, i64_w, i32_w]
                                          rfl
                                        refine take_ (i := 15) (N := some 134) (v := ?_) (a' := ?_) #[true, true, true, true, true, true, true, true, true, true, true, true, true, true, true, true, false, false, false, false, false, false, false, false, false, false, false, false, false, false, false, false, false, false, false, false, false, false] rfl rfl (take_ofW HT_.out HW_.out (by kernel_rfl)) (fun _ _ _ h => h) (Or.inl ⟨by rfl, ?_⟩) hHeld ?_ ?_
                                        rotate_left
                                        · rintro w' ⟨s0, s1, s2, s3, s4, s5, s6, s7, s8, s9, s10, s11⟩
                                          go_simp
                                          with_reducible rfl
                                        rotate_left
                                        · simp only [Act.put, List.setIfInBounds_toArray, List.set_cons_zero, List.set_cons_succ, i64_w, i32_w]
                                          rfl
                                        refine one_ (i := 16) (N := some 135) #[true, true, true, true, true, true, true, true, true, true, true, true, true, true, true, true, true, false, false, false, false, false, false, false, false, false, false, false, false, false, false, false, false, false, false, false, false, false] rfl rfl (one_of HT_.out (by kernel_rfl)) (by decide) (fun K hK => ?_)
                                        refine goes_ Try.func11 (by kernel_rfl) rfl #[.agg #[.slice Ao46 t283.length co46, .string t286, .int .i64 t287, .slice Ao50 t288.length co50], .agg #[.slice A264_0 ((rd_T27 t261 (ji6)).f0).length c264_0, .string ((rd_T27 t261 (ji6)).f1), .int .i64 ((rd_T27 t261 (ji6)).f2), .slice A264_3 ((rd_T27 t261 (ji6)).f3).length c264_3]] (by rfl) rfl rfl (by (try simp only [List.map_toArray, List.map_cons, List.map_nil]); first | done | (simp only [hji6]; rfl) | rfl | (simp only [List.length_drop, List.length_take]; rfl)) ?_
                                        with_reducible refine (sobriquetkeep_Attr.calls k2 _ _ t283 t286 t287 _ _ t288 _ _ ((rd_T27 t261 (ji6)).f0) ((rd_T27 t261 (ji6)).f1) ((rd_T27 t261 (ji6)).f2) _ _ ((rd_T27 t261 (ji6)).f3) true _ ?side1 ?side2 ?side3 ?side4 ?side5 ?side6 ?side7 ?side8 A73.out).mono ?_
                                        (case side1 => repeat (first | exact (Kd.V_reads' HO_293000.out).2.2 | (with_reducible refine Kd.C_alloc ?_ _) | (with_reducible refine Kd.C_drewN ?_ _) | (with_reducible refine Kd.C_drew ?_)))
                                        (case side2 => exact (Kd.V_reads' HO_293000.out).2.1)
                                        (case side3 => repeat (first | exact (Kd.R_reads' HO_293003.out).2.2 | (with_reducible refine Kd.C_alloc ?_ _) | (with_reducible refine Kd.C_drewN ?_ _) | (with_reducible refine Kd.C_drew ?_)))
                                        (case side4 => exact (Kd.R_reads' HO_293003.out).2.1)
                                        (case side5 => repeat (first | exact (Kd.C_below C0_0.out HB.out.2) | (with_reducible refine Kd.C_alloc ?_ _) | (with_reducible refine Kd.C_drewN ?_ _) | (with_reducible refine Kd.C_drew ?_)))
                                        (case side6 => exact HC264_0.out)
                                        (case side7 => repeat (first | exact (Kd.C_below C0_3.out HB.out.2) | (with_reducible refine Kd.C_alloc ?_ _) | (with_reducible refine Kd.C_drewN ?_ _) | (with_reducible refine Kd.C_drew ?_)))
                                        (case side8 => exact HC264_3.out)
                                        rintro e w83 ⟨rfl, hb⟩
                                        refine ⟨_, rfl, ?_⟩
                                        have n0_ := Aside0.mk (Kd.N_below (by (with_reducible repeat (first | apply Kd.N_alloc | apply Kd.N_drewN | apply Kd.N_drew)); exact HO_5.out) hb)
                                        have n1_ := Aside0.mk (Kd.V_below (by (with_reducible repeat (first | apply Kd.V_alloc | apply Kd.V_drewN | apply Kd.V_drew)); exact HO_283000.out) hb)
                                        have n2_ := Aside0.mk (Kd.R_below (by (with_reducible repeat (first | apply Kd.R_alloc | apply Kd.R_drewN | apply Kd.R_drew | apply KB.R_alloc | apply KB.R_drewN | apply KB.R_drew)); exact HO_283003.out) hb)
                                        have n3_ := Aside0.mk (Kd.V_below (by (with_reducible repeat (first | apply Kd.V_alloc | apply Kd.V_drewN | apply Kd.V_drew)); exact HO_293000.out) hb)
                                        have n4_ := Aside0.mk (Kd.R_below (by (with_reducible repeat (first | apply Kd.R_alloc | apply Kd.R_drewN | apply Kd.R_drew | apply KB.R_alloc | apply KB.R_drewN | apply KB.R_drew)); exact HO_293003.out) hb)
                                        have n5_ := Aside0.mk (Kd.V_below (by (with_reducible repeat (first | apply Kd.V_alloc | apply Kd.V_drewN | apply Kd.V_drew)); exact HO_303000.out) hb)
                                        have n6_ := Aside0.mk (Kd.R_below (by (with_reducible repeat (first | apply Kd.R_alloc | apply Kd.R_drewN | apply Kd.R_drew | apply KB.R_alloc | apply KB.R_drewN | apply KB.R_drew)); exact HO_303003.out) hb)
                                        have n7_ := Aside0.mk (blk_below (g := gb265) (o := .cells #[.slice A264_0 ((rd_T27 t261 (ji6)).f0).length c264_0, .string ((rd_T27 t261 (ji6)).f1), .int .i64 ((rd_T27 t261 (ji6)).f2), .slice A264_3 ((rd_T27 t261 (ji6)).f3).length c264_3] 27 (0, 0)) (by (with_reducible repeat (first | refine blk_drewN ?_ _ | refine blk_drew ?_ | refine blk_alloc ?_ _)); exact BK265.out) hb)
                                        have n8_ := Aside0.mk (blk_below (g := gb282) (o := .cells #[.slice Ao39 t273.length co39, .string t276, .int .i64 t277, .slice Ao42 t278.length co42] 27 (0, 0)) (by (with_reducible repeat (first | refine blk_drewN ?_ _ | refine blk_drew ?_ | refine blk_alloc ?_ _)); exact BK282.out) hb)
                                        have n9_ := Aside0.mk (blk_below (g := gb292) (o := .cells #[.slice Ao46 t283.length co46, .string t286, .int .i64 t287, .slice Ao50 t288.length co50] 27 (0, 0)) (by (with_reducible repeat (first | refine blk_drewN ?_ _ | refine blk_drew ?_ | refine blk_alloc ?_ _)); exact BK292.out) hb)
                                        have n10_ := Aside0.mk (blk_below (g := gb302) (o := .cells #[.slice Ao54 t293.length co54, .string t296, .int .i64 t297, .slice Ao59 t298.length co59] 27 (0, 0)) (by (with_reducible repeat (first | refine blk_drewN ?_ _ | refine blk_drew ?_ | refine blk_alloc ?_ _)); exact BK302.out) hb)
                                        have n11_ := Aside0.mk (KB.bb_step (by repeat (first | (with_reducible first | exact HB.out | apply KB.bb_alloc | apply KB.bb_drewN | apply KB.bb_drew1 | refine KB.bb_set ?_ GE265.out | refine KB.bb_set ?_ GE282.out | refine KB.bb_set ?_ GE292.out | refine KB.bb_set ?_ GE302.out) | exact HB.out)) hb)
                                        clear HO_5
                                        clear HO_283000
                                        clear HO_283003
                                        clear HO_293000
                                        clear HO_293003
                                        clear HO_303000
                                        clear HO_303003
                                        clear BK265
                                        clear BK282
                                        clear BK292
                                        clear BK302
                                        clear HB
                                        have HO_5 := n0_
                                        have HO_283000 := n1_
                                        have HO_283003 := n2_
                                        have HO_293000 := n3_
                                        have HO_293003 := n4_
                                        have HO_303000 := n5_
                                        have HO_303003 := n6_
                                        have BK265 := n7_
                                        have BK282 := n8_
                                        have BK292 := n9_
                                        have BK302 := n10_
                                        have HB := n11_
                                        clear n0_ n1_ n2_ n3_ n4_ n5_ n6_ n7_ n8_ n9_ n10_ n11_
                                        (try clear hb)
                                        (try clear hb2)
                                        (try clear hk)
                                        (try clear hi)
                                        refine hK.out _ _ ⟨(blk_cell BK282.out 0).trans rfl, (blk_cell BK282.out 1).trans rfl, (blk_cell BK282.out 2).trans rfl, (blk_cell BK282.out 3).trans rfl, (blk_cell BK265.out 0).trans rfl, (blk_cell BK265.out 1).trans rfl, (blk_cell BK265.out 2).trans rfl, (blk_cell BK265.out 3).trans rfl, (blk_cell BK292.out 0).trans rfl, (blk_cell BK292.out 1).trans rfl, (blk_cell BK292.out 2).trans rfl, (blk_cell BK292.out 3).trans rfl⟩ (fun hHeld => ?_)
                                        clear hK K
                                        refine norm_ (a' := ?_) ?_ ?_
                                        rotate_left
                                        · show Act.put _ (some 135) _ = _
                                          simp only [Act.put, List.setIfInBounds_toArray, List.set_cons_zero, List.set_cons_succ, i64_w, i32_w]
                                          rfl
                                        refine pure_ (i := 17) (N := some 136) (v := ?_) (a' := ?_) #[true, true, true, true, true, true, true, true, true, true, true, true, true, true, true, true, true, true, false, false, false, false, false, false, false, false, false, false, false, false, false, false, false, false, false, false, false, false] rfl rfl (any_of HT_.out (by kernel_rfl)) (fun _ _ _ h => h) (Or.inl ⟨by rfl, ?_⟩) ?_ ?_
                                        rotate_left
                                        · intro w'
                                          go_simp
                                          with_reducible rfl
                                        rotate_left
                                        · simp only [Act.put, List.setIfInBounds_toArray, List.set_cons_zero, List.set_cons_succ, i64_w, i32_w]
                                          rfl
                                        refine pure_ (i := 18) (N := some 137) (v := ?_) (a' := ?_) #[true, true, true, true, true, true, true, true, true, true, true, true, true, true, true, true, true, true, true, false, false, false, false, false, false, false, false, false, false, false, false, false, false, false, false, false, false, false] rfl rfl (any_of HT_.out (by kernel_rfl)) (fun _ _ _ h => h) (Or.inl ⟨by rfl, ?_⟩) ?_ ?_
                                        rotate_left
                                        · intro w'
                                          go_simp
                                          with_reducible rfl
                                        rotate_left
                                        · simp only [Act.put, List.setIfInBounds_toArray, List.set_cons_zero, List.set_cons_succ, i64_w, i32_w]
                                          rfl
                                        refine pure_ (i := 19) (N := some 138) (v := ?_) (a' := ?_) #[true, true, true, true, true, true, true, true, true, true, true, true, true, true, true, true, true, true, true, true, false, false, false, false, false, false, false, false, false, false, false, false, false, false, false, false, false, false] rfl rfl (any_of HT_.out (by kernel_rfl)) (fun _ _ _ h => h) (Or.inl ⟨by rfl, ?_⟩) ?_ ?_
                                        rotate_left
                                        · intro w'
                                          go_simp
                                          with_reducible rfl
                                        rotate_left
                                        · simp only [Act.put, List.setIfInBounds_toArray, List.set_cons_zero, List.set_cons_succ, i64_w, i32_w]
                                          rfl
                                        refine pure_ (i := 22) (N := some 141) (v := ?_) (a' := ?_) #[true, true, true, true, true, true, true, true, true, true, true, true, true, true, true, true, true, true, true, true, false, false, true, false, false, false, false, false, false, false, false, false, false, false, false, false, false, false] rfl rfl (any_of HT_.out (by kernel_rfl)) (fun _ _ _ h => h) (Or.inl ⟨by rfl, ?_⟩) ?_ ?_
                                        rotate_left
                                        · intro w'
                                          go_simp
                                          with_reducible rfl
                                        rotate_left
                                        · simp only [Act.put, List.setIfInBounds_toArray, List.set_cons_zero, List.set_cons_succ, i64_w, i32_w]
                                          rfl
                                        refine take_ (i := 20) (N := some 139) (v := ?_) (a' := ?_) #[true, true, true, true, true, true, true, true, true, true, true, true, true, true, true, true, true, true, true, true, true, false, true, false, false, false, false, false, false, false, false, false, false, false, false, false, false, false] rfl rfl (take_ofW HT_.out HW_.out (by kernel_rfl)) (fun _ _ _ h => h) (Or.inl ⟨by rfl, ?_⟩) hHeld ?_ ?_
                                        rotate_left
                                        · rintro w' ⟨s0, s1, s2, s3, s4, s5, s6, s7, s8, s9, s10, s11⟩
                                          go_simp
                                          with_reducible rfl
                                        rotate_left
                                        · simp only [Act.put, List.setIfInBounds_toArray, List.set_cons_zero, List.set_cons_succ, i64_w, i32_w]
                                          rfl
                                        refine take_ (i := 23) (N := some 142) (v := ?_) (a' := ?_) #[true, true, true, true, true, true, true, true, true, true, true, true, true, true, true, true, true, true, true, true, true, false, true, true, false, false, false, false, false, false, false, false, false, false, false, false, false, false] rfl rfl (take_ofW HT_.out HW_.out (by kernel_rfl)) (fun _ _ _ h => h) (Or.inl ⟨by rfl, ?_⟩) hHeld ?_ ?_
                                        rotate_left
                                        · rintro w' ⟨s0, s1, s2, s3, s4, s5, s6, s7, s8, s9, s10, s11⟩
                                          go_simp
                                          with_reducible rfl
                                        rotate_left
                                        · simp only [Act.put, List.setIfInBounds_toArray, List.set_cons_zero, List.set_cons_succ, i64_w, i32_w]
                                          rfl
                                        refine one_ (i := 21) (N := some 140) #[true, true, true, true, true, true, true, true, true, true, true, true, true, true, true, true, true, true, true, true, true, true, true, true, false, false, false, false, false, false, false, false, false, false, false, false, false, false] rfl rfl (one_of HT_.out (by kernel_rfl)) (by decide) (fun K hK => ?_)
                                        refine goes_ Try.func12 (by kernel_rfl) rfl #[.slice A264_0 ((rd_T27 t261 (ji6)).f0).length c264_0] (by rfl) rfl rfl (by (try simp only [List.map_toArray, List.map_cons, List.map_nil]); first | done | rfl | (simp only [List.length_drop, List.length_take]; rfl)) ?_
                                        with_reducible refine (attr_Rule.calls k2 _ _ ((rd_T27 t261 (ji6)).f0) t308 _ ?side1 ?side2 A75.out).mono ?_
                                        (case side1 => repeat (first | exact (Kd.C_below C0_0.out HB.out.2) | (with_reducible refine Kd.C_alloc ?_ _) | (with_reducible refine Kd.C_drewN ?_ _) | (with_reducible refine Kd.C_drew ?_)))
                                        (case side2 => exact HC264_0.out)
                                        rintro e w84 ⟨rfl, hb⟩
                                        refine ⟨_, rfl, ?_⟩
                                        have n0_ := Aside0.mk (Kd.N_below (by (with_reducible repeat (first | apply Kd.N_alloc | apply Kd.N_drewN | apply Kd.N_drew)); exact HO_5.out) hb)
                                        have n1_ := Aside0.mk (Kd.V_below (by (with_reducible repeat (first | apply Kd.V_alloc | apply Kd.V_drewN | apply Kd.V_drew)); exact HO_283000.out) hb)
                                        have n2_ := Aside0.mk (Kd.R_below (by (with_reducible repeat (first | apply Kd.R_alloc | apply Kd.R_drewN | apply Kd.R_drew | apply KB.R_alloc | apply KB.R_drewN | apply KB.R_drew)); exact HO_283003.out) hb)
                                        have n3_ := Aside0.mk (Kd.V_below (by (with_reducible repeat (first | apply Kd.V_alloc | apply Kd.V_drewN | apply Kd.V_drew)); exact HO_293000.out) hb)
                                        have n4_ := Aside0.mk (Kd.R_below (by (with_reducible repeat (first | apply Kd.R_alloc | apply Kd.R_drewN | apply Kd.R_drew | apply KB.R_alloc | apply KB.R_drewN | apply KB.R_drew)); exact HO_293003.out) hb)
                                        have n5_ := Aside0.mk (Kd.V_below (by (with_reducible repeat (first | apply Kd.V_alloc | apply Kd.V_drewN | apply Kd.V_drew)); exact HO_303000.out) hb)
                                        have n6_ := Aside0.mk (Kd.R_below (by (with_reducible repeat (first | apply Kd.R_alloc | apply Kd.R_drewN | apply Kd.R_drew | apply KB.R_alloc | apply KB.R_drewN | apply KB.R_drew)); exact HO_303003.out) hb)
                                        have n7_ := Aside0.mk (blk_below (g := gb265) (o := .cells #[.slice A264_0 ((rd_T27 t261 (ji6)).f0).length c264_0, .string ((rd_T27 t261 (ji6)).f1), .int .i64 ((rd_T27 t261 (ji6)).f2), .slice A264_3 ((rd_T27 t261 (ji6)).f3).length c264_3] 27 (0, 0)) (by (with_reducible repeat (first | refine blk_drewN ?_ _ | refine blk_drew ?_ | refine blk_alloc ?_ _)); exact BK265.out) hb)
                                        have n8_ := Aside0.mk (blk_below (g := gb282) (o := .cells #[.slice Ao39 t273.length co39, .string t276, .int .i64 t277, .slice Ao42 t278.length co42] 27 (0, 0)) (by (with_reducible repeat (first | refine blk_drewN ?_ _ | refine blk_drew ?_ | refine blk_alloc ?_ _)); exact BK282.out) hb)
                                        have n9_ := Aside0.mk (blk_below (g := gb292) (o := .cells #[.slice Ao46 t283.length co46, .string t286, .int .i64 t287, .slice Ao50 t288.length co50] 27 (0, 0)) (by (with_reducible repeat (first | refine blk_drewN ?_ _ | refine blk_drew ?_ | refine blk_alloc ?_ _)); exact BK292.out) hb)
                                        have n10_ := Aside0.mk (blk_below (g := gb302) (o := .cells #[.slice Ao54 t293.length co54, .string t296, .int .i64 t297, .slice Ao59 t298.length co59] 27 (0, 0)) (by (with_reducible repeat (first | refine blk_drewN ?_ _ | refine blk_drew ?_ | refine blk_alloc ?_ _)); exact BK302.out) hb)
                                        have n11_ := Aside0.mk (KB.bb_step (by repeat (first | (with_reducible first | exact HB.out | apply KB.bb_alloc | apply KB.bb_drewN | apply KB.bb_drew1 | refine KB.bb_set ?_ GE265.out | refine KB.bb_set ?_ GE282.out | refine KB.bb_set ?_ GE292.out | refine KB.bb_set ?_ GE302.out) | exact HB.out)) hb)
                                        clear HO_5
                                        clear HO_283000
                                        clear HO_283003
                                        clear HO_293000
                                        clear HO_293003
                                        clear HO_303000
                                        clear HO_303003
                                        clear BK265
                                        clear BK282
                                        clear BK292
                                        clear BK302
                                        clear HB
                                        have HO_5 := n0_
                                        have HO_283000 := n1_
                                        have HO_283003 := n2_
                                        have HO_293000 := n3_
                                        have HO_293003 := n4_
                                        have HO_303000 := n5_
                                        have HO_303003 := n6_
                                        have BK265 := n7_
                                        have BK282 := n8_
                                        have BK292 := n9_
                                        have BK302 := n10_
                                        have HB := n11_
                                        clear n0_ n1_ n2_ n3_ n4_ n5_ n6_ n7_ n8_ n9_ n10_ n11_
                                        (try clear hb)
                                        (try clear hb2)
                                        (try clear hk)
                                        (try clear hi)
                                        refine hK.out _ _ ⟨(blk_cell BK282.out 0).trans rfl, (blk_cell BK282.out 1).trans rfl, (blk_cell BK282.out 2).trans rfl, (blk_cell BK282.out 3).trans rfl, (blk_cell BK265.out 0).trans rfl, (blk_cell BK265.out 1).trans rfl, (blk_cell BK265.out 2).trans rfl, (blk_cell BK265.out 3).trans rfl, (blk_cell BK292.out 0).trans rfl, (blk_cell BK292.out 1).trans rfl, (blk_cell BK292.out 2).trans rfl, (blk_cell BK292.out 3).trans rfl⟩ (fun hHeld => ?_)
                                        clear hK K
                                        refine norm_ (a' := ?_) ?_ ?_
                                        rotate_left
                                        · show Act.put _ (some 140) _ = _
                                          simp only [Act.put, List.setIfInBounds_toArray, List.set_cons_zero, List.set_cons_succ, i64_w, i32_w]
                                          rfl
                                        refine pure_ (i := 24) (N := some 143) (v := ?_) (a' := ?_) #[true, true, true, true, true, true, true, true, true, true, true, true, true, true, true, true, true, true, true, true, true, true, true, true, true, false, false, false, false, false, false, false, false, false, false, false, false, false] rfl rfl (any_of HT_.out (by kernel_rfl)) (fun _ _ _ h => h) (Or.inl ⟨by rfl, ?_⟩) ?_ ?_
                                        rotate_left
                                        · intro w'
                                          go_simp
                                          with_reducible rfl
                                        rotate_left
                                        · simp only [Act.put, List.setIfInBounds_toArray, List.set_cons_zero, List.set_cons_succ, i64_w, i32_w]
                                          rfl
                                        refine pure_ (i := 25) (N := some 144) (v := ?_) (a' := ?_) #[true, true, true, true, true, true, true, true, true, true, true, true, true, true, true, true, true, true, true, true, true, true, true, true, true, true, false, false, false, false, false, false, false, false, false, false, false, false] rfl rfl (any_of HT_.out (by kernel_rfl)) (fun _ _ _ h => h) (Or.inl ⟨by rfl, ?_⟩) ?_ ?_
                                        rotate_left
                                        · intro w'
                                          go_simp
                                          with_reducible rfl
                                        rotate_left
                                        · simp only [Act.put, List.setIfInBounds_toArray, List.set_cons_zero, List.set_cons_succ, i64_w, i32_w]
                                          rfl
                                        refine pure_ (i := 26) (N := some 145) (v := ?_) (a' := ?_) #[true, true, true, true, true, true, true, true, true, true, true, true, true, true, true, true, true, true, true, true, true, true, true, true, true, true, true, false, false, false, false, false, false, false, false, false, false, false] rfl rfl (any_of HT_.out (by kernel_rfl)) (fun _ _ _ h => h) (Or.inl ⟨by rfl, ?_⟩) ?_ ?_
                                        rotate_left
                                        · intro w'
                                          go_simp
                                          with_reducible rfl
                                        rotate_left
                                        · simp only [Act.put, List.setIfInBounds_toArray, List.set_cons_zero, List.set_cons_succ, i64_w, i32_w]
                                          rfl
                                        refine pure_ (i := 27) (N := some 146) (v := ?_) (a' := ?_) #[true, true, true, true, true, true, true, true, true, true, true, true, true, true, true, true, true, true, true, true, true, true, true, true, true, true, true, true, false, false, false, false, false, false, false, false, false, false] rfl rfl (any_of HT_.out (by kernel_rfl)) (fun _ _ _ h => h) (Or.inl ⟨by rfl, ?_⟩) ?_ ?_
                                        rotate_left
                                        · intro w'
                                          go_simp
                                          with_reducible rfl
                                        rotate_left
                                        · simp only [Act.put, List.setIfInBounds_toArray, List.set_cons_zero, List.set_cons_succ, i64_w, i32_w]
                                          rfl
                                        refine pure_ (i := 30) (N := some 149) (v := ?_) (a' := ?_) #[true, true, true, true, true, true, true, true, true, true, true, true, true, true, true, true, true, true, true, true, true, true, true, true, true, true, true, true, false, false, true, false, false, false, false, false, false, false] rfl rfl (any_of HT_.out (by kernel_rfl)) (fun _ _ _ h => h) (Or.inl ⟨by rfl, ?_⟩) ?_ ?_
                                        rotate_left
                                        · intro w'
                                          go_simp
                                          with_reducible rfl
                                        rotate_left
                                        · simp only [Act.put, List.setIfInBounds_toArray, List.set_cons_zero, List.set_cons_succ, i64_w, i32_w]
                                          rfl
                                        refine take_ (i := 28) (N := some 147) (v := ?_) (a' := ?_) #[true, true, true, true, true, true, true, true, true, true, true, true, true, true, true, true, true, true, true, true, true, true, true, true, true, true, true, true, true, false, true, false, false, false, false, false, false, false] rfl rfl (take_ofW HT_.out HW_.out (by kernel_rfl)) (fun _ _ _ h => h) (Or.inl ⟨by rfl, ?_⟩) hHeld ?_ ?_
                                        rotate_left
                                        · rintro w' ⟨s0, s1, s2, s3, s4, s5, s6, s7, s8, s9, s10, s11⟩
                                          go_simp
                                          with_reducible rfl
                                        rotate_left
                                        · simp only [Act.put, List.setIfInBounds_toArray, List.set_cons_zero, List.set_cons_succ, i64_w, i32_w]
                                          rfl
                                        refine take_ (i := 31) (N := some 150) (v := ?_) (a' := ?_) #[true, true, true, true, true, true, true, true, true, true, true, true, true, true, true, true, true, true, true, true, true, true, true, true, true, true, true, true, true, false, true, true, false, false, false, false, false, false] rfl rfl (take_ofW HT_.out HW_.out (by kernel_rfl)) (fun _ _ _ h => h) (Or.inl ⟨by rfl, ?_⟩) hHeld ?_ ?_
                                        rotate_left
                                        · rintro w' ⟨s0, s1, s2, s3, s4, s5, s6, s7, s8, s9, s10, s11⟩
                                          go_simp
                                          with_reducible rfl
                                        rotate_left
                                        · simp only [Act.put, List.setIfInBounds_toArray, List.set_cons_zero, List.set_cons_succ, i64_w, i32_w]
                                          rfl
                                        refine one_ (i := 29) (N := some 148) #[true, true, true, true, true, true, true, true, true, true, true, true, true, true, true, true, true, true, true, true, true, true, true, true, true, true, true, true, true, true, true, true, false, false, false, false, false, false] rfl rfl (one_of HT_.out (by kernel_rfl)) (by decide) (fun K hK => ?_)
                                        refine goes_ Try.func13 (by kernel_rfl) rfl #[.slice A264_0 ((rd_T27 t261 (ji6)).f0).length c264_0] (by rfl) rfl rfl (by (try simp only [List.map_toArray, List.map_cons, List.map_nil]); first | done | rfl | (simp only [List.length_drop, List.length_take]; rfl)) ?_
                                        with_reducible refine (attr_Kinds.calls k2 _ _ ((rd_T27 t261 (ji6)).f0) t309 _ ?side1 ?side2 A77.out).mono ?_
                                        (case side1 => repeat (first | exact (Kd.C_below C0_0.out HB.out.2) | (with_reducible refine Kd.C_alloc ?_ _) | (with_reducible refine Kd.C_drewN ?_ _) | (with_reducible refine Kd.C_drew ?_)))
                                        (case side2 => exact HC264_0.out)
                                        rintro e w85 ⟨v310, rfl, ho0, hb⟩
                                        refine ⟨_, rfl, ?_⟩
                                        have n0_ := Aside0.mk (Kd.N_elder' (by (with_reducible repeat (first | apply Kd.N_alloc | apply Kd.N_drewN | apply Kd.N_drew)); exact HO_5.out) (Kd.R_base ho0) hb)
                                        have n1_ := Aside0.mk (Kd.V_elder' (by (with_reducible repeat (first | apply Kd.V_alloc | apply Kd.V_drewN | apply Kd.V_drew)); exact HO_283000.out) (Kd.R_base ho0) hb)
                                        have n2_ := Aside0.mk (Kd.R_elder' (by (with_reducible repeat (first | apply Kd.R_alloc | apply Kd.R_drewN | apply Kd.R_drew | apply KB.R_alloc | apply KB.R_drewN | apply KB.R_drew)); exact HO_283003.out) (Kd.R_base ho0) hb)
                                        have n3_ := Aside0.mk (Kd.V_elder' (by (with_reducible repeat (first | apply Kd.V_alloc | apply Kd.V_drewN | apply Kd.V_drew)); exact HO_293000.out) (Kd.R_base ho0) hb)
                                        have n4_ := Aside0.mk (Kd.R_elder' (by (with_reducible repeat (first | apply Kd.R_alloc | apply Kd.R_drewN | apply Kd.R_drew | apply KB.R_alloc | apply KB.R_drewN | apply KB.R_drew)); exact HO_293003.out) (Kd.R_base ho0) hb)
                                        have n5_ := Aside0.mk (Kd.V_elder' (by (with_reducible repeat (first | apply Kd.V_alloc | apply Kd.V_drewN | apply Kd.V_drew)); exact HO_303000.out) (Kd.R_base ho0) hb)
                                        have n6_ := Aside0.mk (Kd.R_elder' (by (with_reducible repeat (first | apply Kd.R_alloc | apply Kd.R_drewN | apply Kd.R_drew | apply KB.R_alloc | apply KB.R_drewN | apply KB.R_drew)); exact HO_303003.out) (Kd.R_base ho0) hb)
                                        have n7_ := Aside0.mk (Kd.R_lower (Kd.R_new' (Kd.R_new' (Kd.R_new' ho0 (Kd.R_lt (by (with_reducible repeat (first | apply Kd.R_alloc | apply Kd.R_drewN | apply Kd.R_drew | apply KB.R_alloc | apply KB.R_drewN | apply KB.R_drew)); exact HO_283003.out))) (Kd.R_lt (by (with_reducible repeat (first | apply Kd.R_alloc | apply Kd.R_drewN | apply Kd.R_drew | apply KB.R_alloc | apply KB.R_drewN | apply KB.R_drew)); exact HO_293003.out))) (Kd.R_lt (by (with_reducible repeat (first | apply Kd.R_alloc | apply Kd.R_drewN | apply Kd.R_drew | apply KB.R_alloc | apply KB.R_drewN | apply KB.R_drew)); exact HO_303003.out))) (KB.bb_size (by repeat (first | (with_reducible first | exact HB.out | apply KB.bb_alloc | apply KB.bb_drewN | apply KB.bb_drew1 | refine KB.bb_set ?_ GE265.out | refine KB.bb_set ?_ GE282.out | refine KB.bb_set ?_ GE292.out | refine KB.bb_set ?_ GE302.out) | exact HB.out))))
                                        have n8_ := Aside0.mk (blk_below (g := gb265) (o := .cells #[.slice A264_0 ((rd_T27 t261 (ji6)).f0).length c264_0, .string ((rd_T27 t261 (ji6)).f1), .int .i64 ((rd_T27 t261 (ji6)).f2), .slice A264_3 ((rd_T27 t261 (ji6)).f3).length c264_3] 27 (0, 0)) (by (with_reducible repeat (first | refine blk_drewN ?_ _ | refine blk_drew ?_ | refine blk_alloc ?_ _)); exact BK265.out) hb)
                                        have n9_ := Aside0.mk (blk_below (g := gb282) (o := .cells #[.slice Ao39 t273.length co39, .string t276, .int .i64 t277, .slice Ao42 t278.length co42] 27 (0, 0)) (by (with_reducible repeat (first | refine blk_drewN ?_ _ | refine blk_drew ?_ | refine blk_alloc ?_ _)); exact BK282.out) hb)
                                        have n10_ := Aside0.mk (blk_below (g := gb292) (o := .cells #[.slice Ao46 t283.length co46, .string t286, .int .i64 t287, .slice Ao50 t288.length co50] 27 (0, 0)) (by (with_reducible repeat (first | refine blk_drewN ?_ _ | refine blk_drew ?_ | refine blk_alloc ?_ _)); exact BK292.out) hb)
                                        have n11_ := Aside0.mk (blk_below (g := gb302) (o := .cells #[.slice Ao54 t293.length co54, .string t296, .int .i64 t297, .slice Ao59 t298.length co59] 27 (0, 0)) (by (with_reducible repeat (first | refine blk_drewN ?_ _ | refine blk_drew ?_ | refine blk_alloc ?_ _)); exact BK302.out) hb)
                                        have n12_ := Aside0.mk (KB.bb_step (by repeat (first | (with_reducible first | exact HB.out | apply KB.bb_alloc | apply KB.bb_drewN | apply KB.bb_drew1 | refine KB.bb_set ?_ GE265.out | refine KB.bb_set ?_ GE282.out | refine KB.bb_set ?_ GE292.out | refine KB.bb_set ?_ GE302.out) | exact HB.out)) hb)
                                        clear HO_5
                                        clear HO_283000
                                        clear HO_283003
                                        clear HO_293000
                                        clear HO_293003
                                        clear HO_303000
                                        clear HO_303003
                                        clear BK265
                                        clear BK282
                                        clear BK292
                                        clear BK302
                                        clear HB
                                        have HO_5 := n0_
                                        have HO_283000 := n1_
                                        have HO_283003 := n2_
                                        have HO_293000 := n3_
                                        have HO_293003 := n4_
                                        have HO_303000 := n5_
                                        have HO_303003 := n6_
                                        have HO311 := n7_
                                        have BK265 := n8_
                                        have BK282 := n9_
                                        have BK292 := n10_
                                        have BK302 := n11_
                                        have HB := n12_
                                        clear n0_ n1_ n2_ n3_ n4_ n5_ n6_ n7_ n8_ n9_ n10_ n11_ n12_
                                        (try clear hb)
                                        (try clear hb2)
                                        (try clear hk)
                                        (try clear hi)
                                        (try clear ho0)
                                        obtain ⟨Ao86, co86, eo86⟩ := Kd.R_slice HO311.out
                                        (first | subst eo86 | (injection eo86 with f1_ f2_ f3_; have f4_ := f1_.symm; have f5_ := f3_.symm; clear f1_ f2_ f3_; subst f4_; subst f5_))
                                        refine hK.out _ _ ⟨(blk_cell BK282.out 0).trans rfl, (blk_cell BK282.out 1).trans rfl, (blk_cell BK282.out 2).trans rfl, (blk_cell BK282.out 3).trans rfl, (blk_cell BK265.out 0).trans rfl, (blk_cell BK265.out 1).trans rfl, (blk_cell BK265.out 2).trans rfl, (blk_cell BK265.out 3).trans rfl, (blk_cell BK292.out 0).trans rfl, (blk_cell BK292.out 1).trans rfl, (blk_cell BK292.out 2).trans rfl, (blk_cell BK292.out 3).trans rfl⟩ (fun hHeld => ?_)
                                        clear hK K
                                        refine norm_ (a' := ?_) ?_ ?_
                                        rotate_left
                                        · show Act.put _ (some 148) _ = _
                                          simp only [Act.put, List.setIfInBounds_toArray, List.set_cons_zero, List.set_cons_succ, i64_w, i32_w]
                                          rfl
                                        refine one_ (i := 32) (N := some 151) #[true, true, true, true, true, true, true, true, true, true, true, true, true, true, true, true, true, true, true, true, true, true, true, true, true, true, true, true, true, true, true, true, true, false, false, false, false, false] rfl rfl (one_of HT_.out (by kernel_rfl)) (by decide) (fun K hK => ?_)
                                        refine goes_ Try.func10 (by kernel_rfl) rfl #[.slice Ao86 t309.length co86, .slice A264_3 ((rd_T27 t261 (ji6)).f3).length c264_3] (by rfl) rfl rfl (by (try simp only [List.map_toArray, List.map_cons, List.map_nil]); first | done | rfl | (simp only [List.length_drop, List.length_take]; rfl)) ?_
                                        with_reducible refine (sobriquetkeep_Ints.calls k2 _ _ t309 _ _ ((rd_T27 t261 (ji6)).f3) true _ ?side1 ?side2 ?side3 ?side4 A78.out).mono ?_
                                        (case side1 => repeat (first | exact (Kd.R_reads' HO311.out).2.2 | (with_reducible refine Kd.C_alloc ?_ _) | (with_reducible refine Kd.C_drewN ?_ _) | (with_reducible refine Kd.C_drew ?_)))
                                        (case side2 => exact (Kd.R_reads' HO311.out).2.1)
                                        (case side3 => repeat (first | exact (Kd.C_below C0_3.out HB.out.2) | (with_reducible refine Kd.C_alloc ?_ _) | (with_reducible refine Kd.C_drewN ?_ _) | (with_reducible refine Kd.C_drew ?_)))
                                        (case side4 => exact HC264_3.out)
                                        rintro e w' ⟨rfl, ⟨nd, rfl⟩⟩
                                        refine ⟨_, rfl, ?_⟩
                                        refine hK.out _ _ ⟨(blk_cell BK282.out 0).trans rfl, (blk_cell BK282.out 1).trans rfl, (blk_cell BK282.out 2).trans rfl, (blk_cell BK282.out 3).trans rfl, (blk_cell BK265.out 0).trans rfl, (blk_cell BK265.out 1).trans rfl, (blk_cell BK265.out 2).trans rfl, (blk_cell BK265.out 3).trans rfl, (blk_cell BK292.out 0).trans rfl, (blk_cell BK292.out 1).trans rfl, (blk_cell BK292.out 2).trans rfl, (blk_cell BK292.out 3).trans rfl⟩ (fun hHeld => ?_)
                                        clear hK K
                                        refine norm_ (a' := ?_) ?_ ?_
                                        rotate_left
                                        · show Act.put _ (some 151) _ = _
                                          simp only [Act.put, List.setIfInBounds_toArray, List.set_cons_zero, List.set_cons_succ, i64_w, i32_w]
                                          rfl
                                        refine pure_ (i := 33) (N := some 152) (v := ?_) (a' := ?_) #[true, true, true, true, true, true, true, true, true, true, true, true, true, true, true, true, true, true, true, true, true, true, true, true, true, true, true, true, true, true, true, true, true, true, false, false, false, false] rfl rfl (any_of HT_.out (by kernel_rfl)) (fun _ _ _ h => h) (Or.inl ⟨by rfl, ?_⟩) ?_ ?_
                                        rotate_left
                                        · intro w'
                                          go_simp
                                          with_reducible rfl
                                        rotate_left
                                        · simp only [Act.put, List.setIfInBounds_toArray, List.set_cons_zero, List.set_cons_succ, i64_w, i32_w]
                                          rfl
                                        refine pure_ (i := 34) (N := some 153) (v := ?_) (a' := ?_) #[true, true, true, true, true, true, true, true, true, true, true, true, true, true, true, true, true, true, true, true, true, true, true, true, true, true, true, true, true, true, true, true, true, true, true, false, false, false] rfl rfl (any_of HT_.out (by kernel_rfl)) (fun _ _ _ h => h) (Or.inl ⟨by rfl, ?_⟩) ?_ ?_
                                        rotate_left
                                        · intro w'
                                          go_simp
                                          with_reducible rfl
                                        rotate_left
                                        · simp only [Act.put, List.setIfInBounds_toArray, List.set_cons_zero, List.set_cons_succ, i64_w, i32_w]
                                          rfl
                                        refine one_ (i := 35) (N := some 154) #[true, true, true, true, true, true, true, true, true, true, true, true, true, true, true, true, true, true, true, true, true, true, true, true, true, true, true, true, true, true, true, true, true, true, true, true, false, false] rfl rfl (one_of HT_.out (by kernel_rfl)) (by decide) (fun K hK => ?_)
                                        refine goes_ Try.func14 (by kernel_rfl) rfl #[] (by rfl) rfl rfl (by (try simp only [List.map_toArray, List.map_cons, List.map_nil]); first | done | rfl | (simp only [List.length_drop, List.length_take]; rfl)) ?_
                                        with_reducible refine (sobriquetlaw22_wakes.calls k2  t313 _ A80.out (by first | exact hrt.out | rfl)).mono ?_
                                        rintro e w87 ⟨rfl, hb⟩
                                        refine ⟨_, rfl, ?_⟩
                                        have n0_ := Aside0.mk (Kd.N_below (by (with_reducible repeat (first | apply Kd.N_alloc | apply Kd.N_drewN | apply Kd.N_drew)); exact HO_5.out) hb)
                                        have n1_ := Aside0.mk (Kd.V_below (by (with_reducible repeat (first | apply Kd.V_alloc | apply Kd.V_drewN | apply Kd.V_drew)); exact HO_283000.out) hb)
                                        have n2_ := Aside0.mk (Kd.R_below (by (with_reducible repeat (first | apply Kd.R_alloc | apply Kd.R_drewN | apply Kd.R_drew | apply KB.R_alloc | apply KB.R_drewN | apply KB.R_drew)); exact HO_283003.out) hb)
                                        have n3_ := Aside0.mk (Kd.V_below (by (with_reducible repeat (first | apply Kd.V_alloc | apply Kd.V_drewN | apply Kd.V_drew)); exact HO_293000.out) hb)
                                        have n4_ := Aside0.mk (Kd.R_below (by (with_reducible repeat (first | apply Kd.R_alloc | apply Kd.R_drewN | apply Kd.R_drew | apply KB.R_alloc | apply KB.R_drewN | apply KB.R_drew)); exact HO_293003.out) hb)
                                        have n5_ := Aside0.mk (Kd.V_below (by (with_reducible repeat (first | apply Kd.V_alloc | apply Kd.V_drewN | apply Kd.V_drew)); exact HO_303000.out) hb)
                                        have n6_ := Aside0.mk (Kd.R_below (by (with_reducible repeat (first | apply Kd.R_alloc | apply Kd.R_drewN | apply Kd.R_drew | apply KB.R_alloc | apply KB.R_drewN | apply KB.R_drew)); exact HO_303003.out) hb)
                                        have n7_ := Aside0.mk (Kd.R_below (by (with_reducible repeat (first | apply Kd.R_alloc | apply Kd.R_drewN | apply Kd.R_drew | apply KB.R_alloc | apply KB.R_drewN | apply KB.R_drew)); exact HO311.out) hb)
                                        have n8_ := Aside0.mk (blk_below (g := gb265) (o := .cells #[.slice A264_0 ((rd_T27 t261 (ji6)).f0).length c264_0, .string ((rd_T27 t261 (ji6)).f1), .int .i64 ((rd_T27 t261 (ji6)).f2), .slice A264_3 ((rd_T27 t261 (ji6)).f3).length c264_3] 27 (0, 0)) (by (with_reducible repeat (first | refine blk_drewN ?_ _ | refine blk_drew ?_ | refine blk_alloc ?_ _)); exact BK265.out) hb)
                                        have n9_ := Aside0.mk (blk_below (g := gb282) (o := .cells #[.slice Ao39 t273.length co39, .string t276, .int .i64 t277, .slice Ao42 t278.length co42] 27 (0, 0)) (by (with_reducible repeat (first | refine blk_drewN ?_ _ | refine blk_drew ?_ | refine blk_alloc ?_ _)); exact BK282.out) hb)
                                        have n10_ := Aside0.mk (blk_below (g := gb292) (o := .cells #[.slice Ao46 t283.length co46, .string t286, .int .i64 t287, .slice Ao50 t288.length co50] 27 (0, 0)) (by (with_reducible repeat (first | refine blk_drewN ?_ _ | refine blk_drew ?_ | refine blk_alloc ?_ _)); exact BK292.out) hb)
                                        have n11_ := Aside0.mk (blk_below (g := gb302) (o := .cells #[.slice Ao54 t293.length co54, .string t296, .int .i64 t297, .slice Ao59 t298.length co59] 27 (0, 0)) (by (with_reducible repeat (first | refine blk_drewN ?_ _ | refine blk_drew ?_ | refine blk_alloc ?_ _)); exact BK302.out) hb)
                                        have n12_ := Aside0.mk (KB.bb_step (by repeat (first | (with_reducible first | exact HB.out | apply KB.bb_alloc | apply KB.bb_drewN | apply KB.bb_drew1 | refine KB.bb_set ?_ GE265.out | refine KB.bb_set ?_ GE282.out | refine KB.bb_set ?_ GE292.out | refine KB.bb_set ?_ GE302.out) | exact HB.out)) hb)
                                        clear HO_5
                                        clear HO_283000
                                        clear HO_283003
                                        clear HO_293000
                                        clear HO_293003
                                        clear HO_303000
                                        clear HO_303003
                                        clear HO311
                                        clear BK265
                                        clear BK282
                                        clear BK292
                                        clear BK302
                                        clear HB
                                        have HO_5 := n0_
                                        have HO_283000 := n1_
                                        have HO_283003 := n2_
                                        have HO_293000 := n3_
                                        have HO_293003 := n4_
                                        have HO_303000 := n5_
                                        have HO_303003 := n6_
                                        have HO311 := n7_
                                        have BK265 := n8_
                                        have BK282 := n9_
                                        have BK292 := n10_
                                        have BK302 := n11_
                                        have HB := n12_
                                        clear n0_ n1_ n2_ n3_ n4_ n5_ n6_ n7_ n8_ n9_ n10_ n11_ n12_
                                        (try clear hb)
                                        (try clear hb2)
                                        (try clear hk)
                                        (try clear hi)
                                        refine hK.out _ _ ⟨(blk_cell BK282.out 0).trans rfl, (blk_cell BK282.out 1).trans rfl, (blk_cell BK282.out 2).trans rfl, (blk_cell BK282.out 3).trans rfl, (blk_cell BK265.out 0).trans rfl, (blk_cell BK265.out 1).trans rfl, (blk_cell BK265.out 2).trans rfl, (blk_cell BK265.out 3).trans rfl, (blk_cell BK292.out 0).trans rfl, (blk_cell BK292.out 1).trans rfl, (blk_cell BK292.out 2).trans rfl, (blk_cell BK292.out 3).trans rfl⟩ (fun hHeld => ?_)
                                        clear hK K
                                        refine norm_ (a' := ?_) ?_ ?_
                                        rotate_left
                                        · show Act.put _ (some 154) _ = _
                                          simp only [Act.put, List.setIfInBounds_toArray, List.set_cons_zero, List.set_cons_succ, i64_w, i32_w]
                                          rfl
                                        refine pure_ (i := 36) (N := some 155) (v := ?_) (a' := ?_) #[true, true, true, true, true, true, true, true, true, true, true, true, true, true, true, true, true, true, true, true, true, true, true, true, true, true, true, true, true, true, true, true, true, true, true, true, true, false] rfl rfl (any_of HT_.out (by kernel_rfl)) (fun _ _ _ h => h) (Or.inl ⟨by rfl, ?_⟩) ?_ ?_
                                        rotate_left
                                        · intro w'
                                          go_simp
                                          with_reducible rfl
                                        rotate_left
                                        · simp only [Act.put, List.setIfInBounds_toArray, List.set_cons_zero, List.set_cons_succ, i64_w, i32_w]
                                          rfl
                                        refine pure_ (i := 37) (N := some 4) (v := ?_) (a' := ?_) #[true, true, true, true, true, true, true, true, true, true, true, true, true, true, true, true, true, true, true, true, true, true, true, true, true, true, true, true, true, true, true, true, true, true, true, true, true, true] rfl rfl (any_of HT_.out (by kernel_rfl)) (fun _ _ _ h => h) (Or.inl ⟨by rfl, ?_⟩) ?_ ?_
                                        rotate_left
                                        · intro w'
                                          go_simp
                                          with_reducible rfl
                                        rotate_left
                                        · simp only [Act.put, List.setIfInBounds_toArray, List.set_cons_zero, List.set_cons_succ, i64_w, i32_w]
                                          rfl
                                        refine done_ (done_of HT_.out (by kernel_rfl)) ?_
                                        try go_wp2
                                        go_ret
                                        exact ⟨by first | rfl | (simp [errW_none, errW_some] <;> rfl) | (simp only [← hji6]; first | rfl | (simp [errW_none, errW_some] <;> rfl)) | (simp [*, errW_none, errW_some] <;> rfl), by refine (show KB.BB w wz _ from ?_).1; repeat (first | (with_reducible first | exact HB.out | apply KB.bb_alloc | apply KB.bb_drewN | apply KB.bb_drew1 | refine KB.bb_set ?_ GE265.out | refine KB.bb_set ?_ GE282.out | refine KB.bb_set ?_ GE292.out | refine KB.bb_set ?_ GE302.out) | exact HB.out)⟩
                                      · replace c79 := Bool.eq_false_iff.mpr c79
                                        subst c79
                                        have H1 : (some false) = some r := by rw [if_neg (show ¬ (false = true) by decide)] at H; exact H
                                        clear H
                                        have H := H1
                                        clear H1
                                        exact absurd ((Option.some.inj H).trans hrt.out) (by decide)
                                    · rw [if_neg c76] at H
                                      have c76b0 : (t308 == ((rd_T27 t261 (ji6)).f2)) = false := beq_eq_false_iff_ne.mpr c76
                                      have c76b1 : (t308 != ((rd_T27 t261 (ji6)).f2)) = true := bne_iff_ne.mpr c76
                                      exact absurd ((Option.some.inj H).trans hrt.out) (by decide)
                                  · replace c74 := Bool.eq_false_iff.mpr c74
                                    subst c74
                                    have H1 : (some false) = some r := by rw [if_neg (show ¬ (false = true) by decide)] at H; exact H
                                    clear H
                                    have H := H1
                                    clear H1
                                    exact absurd ((Option.some.inj H).trans hrt.out) (by decide)
                                · replace c72 := Bool.eq_false_iff.mpr c72
                                  subst c72
                                  have H1 : (some false) = some r := by rw [if_neg (show ¬ (false = true) by decide)] at H; exact H
                                  clear H
                                  have H := H1
                                  clear H1
                                  exact absurd ((Option.some.inj H).trans hrt.out) (by decide)
                            · replace c69 := Bool.eq_false_iff.mpr c69
                              subst c69
                              have H1 : (some false) = some r := by rw [if_neg (show ¬ (false = true) by decide)] at H; exact H
                              clear H
                              have H := H1
                              clear H1
                              exact absurd ((Option.some.inj H).trans hrt.out) (by decide)
                          · replace c68 := Bool.eq_false_iff.mpr c68
                            subst c68
                            have H1 : (some false) = some r := by rw [if_neg (show ¬ (false = true) by decide)] at H; exact H
                            clear H
                            have H := H1
                            clear H1
                            exact absurd ((Option.some.inj H).trans hrt.out) (by decide)
                  · rw [if_neg c33] at H
                    exact absurd H (by simp)
          · rw [if_neg c9] at H
            exact absurd H (by simp)
        · rw [if_neg c8] at H
          exact absurd H (by simp)
      · rw [if_neg c7] at H
        exact absurd H (by simp)

/-- THE ONE PURE STATEMENT of sobriquetlaw22_AttrNames: yours. -/
def sobriquetlaw22_AttrNames.Pure : Prop := ∀ (a0 : Int) (a1 : Int), (Lit.int .i64 a0).wf = true → (Lit.int .i64 a1).wf = true → ∃ k, sobriquetlaw22_AttrNames.f k a0 a1 = some true
theorem sobriquetlaw22_AttrNames.walk (P : sobriquetlaw22_AttrNames.Pure) (a0 : Int) (a1 : Int) (w : World) (w0 : (Lit.int .i64 a0).wf = true) (w1 : (Lit.int .i64 a1).wf = true) :
    Calls Try.prog 3 #[.int .i64 a0, .int .i64 a1] w fun e w' => e = .returned (.bool true) ∧ Below w.heap.size w w' := by
  obtain ⟨k, h⟩ := P a0 a1 w0 w1
  refine (sobriquetlaw22_AttrNames.calls k a0 a1 true w h rfl).mono ?_
  rintro e w' ⟨rfl, hd⟩
  exact ⟨rfl, hd⟩

end Go.Proofs.Yteclbjjdhckgoaa.CAttrNames
