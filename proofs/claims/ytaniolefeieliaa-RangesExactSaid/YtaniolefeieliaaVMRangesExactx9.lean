-- Written by a program of this session over the translation; checked by Lean alone.
import Derived.Test.YtaniolefeieliaaVMRangesExactx0
import Derived.Test.YtaniolefeieliaaVMRangesExactx8
namespace Go.Proofs.Ytaniolefeieliaa.MRangesExact
open Go.RowKit Go.Proofs.YtaniolefeieliaaW.PrintWords Go.Proofs.YtaniolefeieliaaW.PrintLast Go.Proofs.YtaniolefeieliaaW.PrintMore
attribute [local go_sem] max2_int min2_int max_two min_two max_three min_three max_four min_four   -- for this text's walks alone
set_option linter.unusedVariables false
set_option linter.unusedSimpArgs false
set_option linter.unnecessarySimpa false

/-! ### sobriquetref05_Pack: function 20 -/
mutual
def sobriquetref05_Pack.l0 : Nat → List (S44) → Int → Int → List Int → List Int → Option (List Int × List Int)
 | 0, _, _, _, _, _ => none
 | k + 1, x0, x4, x5, x194000, x194001 => if x5 < 4352 then (if 256 ≤ 35184372088832 then (sobriquetref05_Pack.l1 k x0 x4 x5 (List.replicate 256 0) x194000 x194001) else (none)) else (some (x194000, x194001))
def sobriquetref05_Pack.l1 : Nat → List (S44) → Int → Int → List Int → List Int → List Int → Option (List Int × List Int)
 | 0, _, _, _, _, _, _ => none
 | k + 1, x0, x4, x5, x6, x194000, x194001 => if x4 < (x0.length : Int) then (if 0 ≤ x4 then (sobriquetref05_Pack.j2 k x0 x4 x5 x6 (decide (((rd_T44 x0 x4).f1) < (wrap64 (256 * x5)))) x194000 x194001) else (none)) else (sobriquetref05_Pack.j2 k x0 x4 x5 x6 false x194000 x194001)
def sobriquetref05_Pack.j2 : Nat → List (S44) → Int → Int → List Int → Bool → List Int → List Int → Option (List Int × List Int)
 | 0, _, _, _, _, _, _, _ => none
 | k + 1, x0, x4, x5, x6, x29, x194000, x194001 => if x29 = true then (sobriquetref05_Pack.l1 k x0 (wrap64 (x4 + 1)) x5 x6 x194000 x194001) else (sobriquetref05_Pack.l2 k x0 x4 x5 x6 x4 x194000 x194001)
def sobriquetref05_Pack.l2 : Nat → List (S44) → Int → Int → List Int → Int → List Int → List Int → Option (List Int × List Int)
 | 0, _, _, _, _, _, _, _ => none
 | k + 1, x0, x4, x5, x6, x7, x194000, x194001 => if x7 < (x0.length : Int) then (if 0 ≤ x7 then (sobriquetref05_Pack.j4 k x0 x4 x5 x6 x7 (decide (((rd_T44 x0 x7).f0) < (wrap64 (256 * (wrap64 (x5 + 1)))))) x194000 x194001) else (none)) else (sobriquetref05_Pack.j4 k x0 x4 x5 x6 x7 false x194000 x194001)
def sobriquetref05_Pack.j4 : Nat → List (S44) → Int → Int → List Int → Int → Bool → List Int → List Int → Option (List Int × List Int)
 | 0, _, _, _, _, _, _, _, _ => none
 | k + 1, x0, x4, x5, x6, x7, x47, x194000, x194001 => if x47 = true then (if 0 ≤ x7 then (if x7 < (x0.length : Int) then (sobriquetref05_Pack.l3 k x0 x4 x5 x6 x7 (mx ((rd_T44 x0 x7).f0) (wrap64 (256 * x5))) x194000 x194001) else (none)) else (none)) else (sobriquetref05_Pack.l4 k x0 x4 x5 x6 (-1) 0 x194000 x194001)
def sobriquetref05_Pack.l3 : Nat → List (S44) → Int → Int → List Int → Int → Int → List Int → List Int → Option (List Int × List Int)
 | 0, _, _, _, _, _, _, _, _ => none
 | k + 1, x0, x4, x5, x6, x7, x8, x194000, x194001 => if 0 ≤ x7 then (if x7 < (x0.length : Int) then (if x8 ≤ (mn ((rd_T44 x0 x7).f1) (wrap64 ((wrap64 (256 * x5)) + 255))) then (if 0 ≤ (wrap64 (x8 - (wrap64 (256 * x5)))) then (if (wrap64 (x8 - (wrap64 (256 * x5)))) < (x6.length : Int) then (sobriquetref05_Pack.l3 k x0 x4 x5 (x6.set ((wrap64 (x8 - (wrap64 (256 * x5)))) : Int).toNat ((rd_T44 x0 x7).f2)) x7 (wrap64 (x8 + 1)) x194000 x194001) else (none)) else (none)) else (sobriquetref05_Pack.l2 k x0 x4 x5 x6 (wrap64 (x7 + 1)) x194000 x194001)) else (none)) else (none)
def sobriquetref05_Pack.l4 : Nat → List (S44) → Int → Int → List Int → Int → Int → List Int → List Int → Option (List Int × List Int)
 | 0, _, _, _, _, _, _, _, _ => none
 | k + 1, x0, x4, x5, x6, x9, x10, x194000, x194001 => if x9 < 0 then (sobriquetref05_Pack.j7 k x0 x4 x5 x6 x9 x10 (decide ((wrap64 (256 * x10)) < (x194001.length : Int))) x194000 x194001) else (sobriquetref05_Pack.j7 k x0 x4 x5 x6 x9 x10 false x194000 x194001)
def sobriquetref05_Pack.j7 : Nat → List (S44) → Int → Int → List Int → Int → Int → Bool → List Int → List Int → Option (List Int × List Int)
 | 0, _, _, _, _, _, _, _, _, _ => none
 | k + 1, x0, x4, x5, x6, x9, x10, x91, x194000, x194001 => if x91 = true then (if 0 ≤ (wrap64 (256 * x10)) then (if (wrap64 (256 * x10)) ≤ (wrap64 ((wrap64 (256 * x10)) + 256)) then (if (wrap64 ((wrap64 (256 * x10)) + 256)) ≤ (x194001.length : Int) then ((sobriquetkeep_Ints.f k ((x194001.take ((wrap64 ((wrap64 (256 * x10)) + 256)) : Int).toNat).drop ((wrap64 (256 * x10)) : Int).toNat) x6).bind fun t207 => (if t207 = true then (sobriquetref05_Pack.l4 k x0 x4 x5 x6 x10 (wrap64 (x10 + 1)) x194000 x194001) else (sobriquetref05_Pack.l4 k x0 x4 x5 x6 x9 (wrap64 (x10 + 1)) x194000 x194001))) else (none)) else (none)) else (none)) else (if x9 < 0 then (if x194001.length + x6.length < 17592186044416 then (if x194000.length < 17592186044416 then (sobriquetref05_Pack.l0 k x0 x4 (wrap64 (x5 + 1)) (x194000 ++ [wrap64 ((x194001.length : Int) / 256)]) (x194001 ++ x6)) else (none)) else (none)) else (if x194000.length < 17592186044416 then (sobriquetref05_Pack.l0 k x0 x4 (wrap64 (x5 + 1)) (x194000 ++ [x9]) x194001) else (none)))
end
def sobriquetref05_Pack.f (k : Nat) (l0 : List (S44)) : Option (List Int × List Int) := sobriquetref05_Pack.l0 k l0 0 0 ([] : List Int) ([] : List Int)
theorem sobriquetref05_Pack.mono_l : ∀ k, (∀ y0 y1 y2 y3 y4, LeO (sobriquetref05_Pack.l0 k y0 y1 y2 y3 y4) (sobriquetref05_Pack.l0 (k + 1) y0 y1 y2 y3 y4)) ∧ (∀ y0 y1 y2 y3 y4 y5, LeO (sobriquetref05_Pack.l1 k y0 y1 y2 y3 y4 y5) (sobriquetref05_Pack.l1 (k + 1) y0 y1 y2 y3 y4 y5)) ∧ (∀ y0 y1 y2 y3 y4 y5 y6, LeO (sobriquetref05_Pack.j2 k y0 y1 y2 y3 y4 y5 y6) (sobriquetref05_Pack.j2 (k + 1) y0 y1 y2 y3 y4 y5 y6)) ∧ (∀ y0 y1 y2 y3 y4 y5 y6, LeO (sobriquetref05_Pack.l2 k y0 y1 y2 y3 y4 y5 y6) (sobriquetref05_Pack.l2 (k + 1) y0 y1 y2 y3 y4 y5 y6)) ∧ (∀ y0 y1 y2 y3 y4 y5 y6 y7, LeO (sobriquetref05_Pack.j4 k y0 y1 y2 y3 y4 y5 y6 y7) (sobriquetref05_Pack.j4 (k + 1) y0 y1 y2 y3 y4 y5 y6 y7)) ∧ (∀ y0 y1 y2 y3 y4 y5 y6 y7, LeO (sobriquetref05_Pack.l3 k y0 y1 y2 y3 y4 y5 y6 y7) (sobriquetref05_Pack.l3 (k + 1) y0 y1 y2 y3 y4 y5 y6 y7)) ∧ (∀ y0 y1 y2 y3 y4 y5 y6 y7, LeO (sobriquetref05_Pack.l4 k y0 y1 y2 y3 y4 y5 y6 y7) (sobriquetref05_Pack.l4 (k + 1) y0 y1 y2 y3 y4 y5 y6 y7)) ∧ (∀ y0 y1 y2 y3 y4 y5 y6 y7 y8, LeO (sobriquetref05_Pack.j7 k y0 y1 y2 y3 y4 y5 y6 y7 y8) (sobriquetref05_Pack.j7 (k + 1) y0 y1 y2 y3 y4 y5 y6 y7 y8))
 | 0 => ⟨fun _ _ _ _ _ r h => by simp [sobriquetref05_Pack.l0] at h, fun _ _ _ _ _ _ r h => by simp [sobriquetref05_Pack.l1] at h, fun _ _ _ _ _ _ _ r h => by simp [sobriquetref05_Pack.j2] at h, fun _ _ _ _ _ _ _ r h => by simp [sobriquetref05_Pack.l2] at h, fun _ _ _ _ _ _ _ _ r h => by simp [sobriquetref05_Pack.j4] at h, fun _ _ _ _ _ _ _ _ r h => by simp [sobriquetref05_Pack.l3] at h, fun _ _ _ _ _ _ _ _ r h => by simp [sobriquetref05_Pack.l4] at h, fun _ _ _ _ _ _ _ _ _ r h => by simp [sobriquetref05_Pack.j7] at h⟩
 | k + 1 => by
  obtain ⟨ih0, ih1, ih2, ih3, ih4, ih5, ih6, ih7⟩ := sobriquetref05_Pack.mono_l k
  refine ⟨?_, ?_, ?_, ?_, ?_, ?_, ?_, ?_⟩
  ·
   intro y0 y1 y2 y3 y4
   unfold sobriquetref05_Pack.l0
   repeat' first
   | (with_reducible exact ih0 _ _ _ _ _)
   | (with_reducible exact ih1 _ _ _ _ _ _)
   | (with_reducible exact ih2 _ _ _ _ _ _ _)
   | (with_reducible exact ih3 _ _ _ _ _ _ _)
   | (with_reducible exact ih4 _ _ _ _ _ _ _ _)
   | (with_reducible exact ih5 _ _ _ _ _ _ _ _)
   | (with_reducible exact ih6 _ _ _ _ _ _ _ _)
   | (with_reducible exact ih7 _ _ _ _ _ _ _ _ _)
   | (with_reducible exact sobriquetkeep_Ints.mono _ _ _)
   | (with_reducible exact LeO.refl _)
   | (with_reducible exact LeO.none _)
   | (with_reducible refine LeO.ite ?_ ?_)
   | (with_reducible refine LeO.bind ?_ (fun _ => ?_))
   | exact ih0 _ _ _ _ _
   | exact ih1 _ _ _ _ _ _
   | exact ih2 _ _ _ _ _ _ _
   | exact ih3 _ _ _ _ _ _ _
   | exact ih4 _ _ _ _ _ _ _ _
   | exact ih5 _ _ _ _ _ _ _ _
   | exact ih6 _ _ _ _ _ _ _ _
   | exact ih7 _ _ _ _ _ _ _ _ _
   | exact sobriquetkeep_Ints.mono _ _ _
   | exact LeO.none _
   | refine LeO.ite ?_ ?_
   | refine LeO.bind ?_ (fun _ => ?_)
  ·
   intro y0 y1 y2 y3 y4 y5
   unfold sobriquetref05_Pack.l1
   repeat' first
   | (with_reducible exact ih0 _ _ _ _ _)
   | (with_reducible exact ih1 _ _ _ _ _ _)
   | (with_reducible exact ih2 _ _ _ _ _ _ _)
   | (with_reducible exact ih3 _ _ _ _ _ _ _)
   | (with_reducible exact ih4 _ _ _ _ _ _ _ _)
   | (with_reducible exact ih5 _ _ _ _ _ _ _ _)
   | (with_reducible exact ih6 _ _ _ _ _ _ _ _)
   | (with_reducible exact ih7 _ _ _ _ _ _ _ _ _)
   | (with_reducible exact sobriquetkeep_Ints.mono _ _ _)
   | (with_reducible exact LeO.refl _)
   | (with_reducible exact LeO.none _)
   | (with_reducible refine LeO.ite ?_ ?_)
   | (with_reducible refine LeO.bind ?_ (fun _ => ?_))
   | exact ih0 _ _ _ _ _
   | exact ih1 _ _ _ _ _ _
   | exact ih2 _ _ _ _ _ _ _
   | exact ih3 _ _ _ _ _ _ _
   | exact ih4 _ _ _ _ _ _ _ _
   | exact ih5 _ _ _ _ _ _ _ _
   | exact ih6 _ _ _ _ _ _ _ _
   | exact ih7 _ _ _ _ _ _ _ _ _
   | exact sobriquetkeep_Ints.mono _ _ _
   | exact LeO.none _
   | refine LeO.ite ?_ ?_
   | refine LeO.bind ?_ (fun _ => ?_)
  ·
   intro y0 y1 y2 y3 y4 y5 y6
   unfold sobriquetref05_Pack.j2
   repeat' first
   | (with_reducible exact ih0 _ _ _ _ _)
   | (with_reducible exact ih1 _ _ _ _ _ _)
   | (with_reducible exact ih2 _ _ _ _ _ _ _)
   | (with_reducible exact ih3 _ _ _ _ _ _ _)
   | (with_reducible exact ih4 _ _ _ _ _ _ _ _)
   | (with_reducible exact ih5 _ _ _ _ _ _ _ _)
   | (with_reducible exact ih6 _ _ _ _ _ _ _ _)
   | (with_reducible exact ih7 _ _ _ _ _ _ _ _ _)
   | (with_reducible exact sobriquetkeep_Ints.mono _ _ _)
   | (with_reducible exact LeO.refl _)
   | (with_reducible exact LeO.none _)
   | (with_reducible refine LeO.ite ?_ ?_)
   | (with_reducible refine LeO.bind ?_ (fun _ => ?_))
   | exact ih0 _ _ _ _ _
   | exact ih1 _ _ _ _ _ _
   | exact ih2 _ _ _ _ _ _ _
   | exact ih3 _ _ _ _ _ _ _
   | exact ih4 _ _ _ _ _ _ _ _
   | exact ih5 _ _ _ _ _ _ _ _
   | exact ih6 _ _ _ _ _ _ _ _
   | exact ih7 _ _ _ _ _ _ _ _ _
   | exact sobriquetkeep_Ints.mono _ _ _
   | exact LeO.none _
   | refine LeO.ite ?_ ?_
   | refine LeO.bind ?_ (fun _ => ?_)
  ·
   intro y0 y1 y2 y3 y4 y5 y6
   unfold sobriquetref05_Pack.l2
   repeat' first
   | (with_reducible exact ih0 _ _ _ _ _)
   | (with_reducible exact ih1 _ _ _ _ _ _)
   | (with_reducible exact ih2 _ _ _ _ _ _ _)
   | (with_reducible exact ih3 _ _ _ _ _ _ _)
   | (with_reducible exact ih4 _ _ _ _ _ _ _ _)
   | (with_reducible exact ih5 _ _ _ _ _ _ _ _)
   | (with_reducible exact ih6 _ _ _ _ _ _ _ _)
   | (with_reducible exact ih7 _ _ _ _ _ _ _ _ _)
   | (with_reducible exact sobriquetkeep_Ints.mono _ _ _)
   | (with_reducible exact LeO.refl _)
   | (with_reducible exact LeO.none _)
   | (with_reducible refine LeO.ite ?_ ?_)
   | (with_reducible refine LeO.bind ?_ (fun _ => ?_))
   | exact ih0 _ _ _ _ _
   | exact ih1 _ _ _ _ _ _
   | exact ih2 _ _ _ _ _ _ _
   | exact ih3 _ _ _ _ _ _ _
   | exact ih4 _ _ _ _ _ _ _ _
   | exact ih5 _ _ _ _ _ _ _ _
   | exact ih6 _ _ _ _ _ _ _ _
   | exact ih7 _ _ _ _ _ _ _ _ _
   | exact sobriquetkeep_Ints.mono _ _ _
   | exact LeO.none _
   | refine LeO.ite ?_ ?_
   | refine LeO.bind ?_ (fun _ => ?_)
  ·
   intro y0 y1 y2 y3 y4 y5 y6 y7
   unfold sobriquetref05_Pack.j4
   repeat' first
   | (with_reducible exact ih0 _ _ _ _ _)
   | (with_reducible exact ih1 _ _ _ _ _ _)
   | (with_reducible exact ih2 _ _ _ _ _ _ _)
   | (with_reducible exact ih3 _ _ _ _ _ _ _)
   | (with_reducible exact ih4 _ _ _ _ _ _ _ _)
   | (with_reducible exact ih5 _ _ _ _ _ _ _ _)
   | (with_reducible exact ih6 _ _ _ _ _ _ _ _)
   | (with_reducible exact ih7 _ _ _ _ _ _ _ _ _)
   | (with_reducible exact sobriquetkeep_Ints.mono _ _ _)
   | (with_reducible exact LeO.refl _)
   | (with_reducible exact LeO.none _)
   | (with_reducible refine LeO.ite ?_ ?_)
   | (with_reducible refine LeO.bind ?_ (fun _ => ?_))
   | exact ih0 _ _ _ _ _
   | exact ih1 _ _ _ _ _ _
   | exact ih2 _ _ _ _ _ _ _
   | exact ih3 _ _ _ _ _ _ _
   | exact ih4 _ _ _ _ _ _ _ _
   | exact ih5 _ _ _ _ _ _ _ _
   | exact ih6 _ _ _ _ _ _ _ _
   | exact ih7 _ _ _ _ _ _ _ _ _
   | exact sobriquetkeep_Ints.mono _ _ _
   | exact LeO.none _
   | refine LeO.ite ?_ ?_
   | refine LeO.bind ?_ (fun _ => ?_)
  ·
   intro y0 y1 y2 y3 y4 y5 y6 y7
   unfold sobriquetref05_Pack.l3
   repeat' first
   | (with_reducible exact ih0 _ _ _ _ _)
   | (with_reducible exact ih1 _ _ _ _ _ _)
   | (with_reducible exact ih2 _ _ _ _ _ _ _)
   | (with_reducible exact ih3 _ _ _ _ _ _ _)
   | (with_reducible exact ih4 _ _ _ _ _ _ _ _)
   | (with_reducible exact ih5 _ _ _ _ _ _ _ _)
   | (with_reducible exact ih6 _ _ _ _ _ _ _ _)
   | (with_reducible exact ih7 _ _ _ _ _ _ _ _ _)
   | (with_reducible exact sobriquetkeep_Ints.mono _ _ _)
   | (with_reducible exact LeO.refl _)
   | (with_reducible exact LeO.none _)
   | (with_reducible refine LeO.ite ?_ ?_)
   | (with_reducible refine LeO.bind ?_ (fun _ => ?_))
   | exact ih0 _ _ _ _ _
   | exact ih1 _ _ _ _ _ _
   | exact ih2 _ _ _ _ _ _ _
   | exact ih3 _ _ _ _ _ _ _
   | exact ih4 _ _ _ _ _ _ _ _
   | exact ih5 _ _ _ _ _ _ _ _
   | exact ih6 _ _ _ _ _ _ _ _
   | exact ih7 _ _ _ _ _ _ _ _ _
   | exact sobriquetkeep_Ints.mono _ _ _
   | exact LeO.none _
   | refine LeO.ite ?_ ?_
   | refine LeO.bind ?_ (fun _ => ?_)
  ·
   intro y0 y1 y2 y3 y4 y5 y6 y7
   unfold sobriquetref05_Pack.l4
   repeat' first
   | (with_reducible exact ih0 _ _ _ _ _)
   | (with_reducible exact ih1 _ _ _ _ _ _)
   | (with_reducible exact ih2 _ _ _ _ _ _ _)
   | (with_reducible exact ih3 _ _ _ _ _ _ _)
   | (with_reducible exact ih4 _ _ _ _ _ _ _ _)
   | (with_reducible exact ih5 _ _ _ _ _ _ _ _)
   | (with_reducible exact ih6 _ _ _ _ _ _ _ _)
   | (with_reducible exact ih7 _ _ _ _ _ _ _ _ _)
   | (with_reducible exact sobriquetkeep_Ints.mono _ _ _)
   | (with_reducible exact LeO.refl _)
   | (with_reducible exact LeO.none _)
   | (with_reducible refine LeO.ite ?_ ?_)
   | (with_reducible refine LeO.bind ?_ (fun _ => ?_))
   | exact ih0 _ _ _ _ _
   | exact ih1 _ _ _ _ _ _
   | exact ih2 _ _ _ _ _ _ _
   | exact ih3 _ _ _ _ _ _ _
   | exact ih4 _ _ _ _ _ _ _ _
   | exact ih5 _ _ _ _ _ _ _ _
   | exact ih6 _ _ _ _ _ _ _ _
   | exact ih7 _ _ _ _ _ _ _ _ _
   | exact sobriquetkeep_Ints.mono _ _ _
   | exact LeO.none _
   | refine LeO.ite ?_ ?_
   | refine LeO.bind ?_ (fun _ => ?_)
  ·
   intro y0 y1 y2 y3 y4 y5 y6 y7 y8
   unfold sobriquetref05_Pack.j7
   repeat' first
   | (with_reducible exact ih0 _ _ _ _ _)
   | (with_reducible exact ih1 _ _ _ _ _ _)
   | (with_reducible exact ih2 _ _ _ _ _ _ _)
   | (with_reducible exact ih3 _ _ _ _ _ _ _)
   | (with_reducible exact ih4 _ _ _ _ _ _ _ _)
   | (with_reducible exact ih5 _ _ _ _ _ _ _ _)
   | (with_reducible exact ih6 _ _ _ _ _ _ _ _)
   | (with_reducible exact ih7 _ _ _ _ _ _ _ _ _)
   | (with_reducible exact sobriquetkeep_Ints.mono _ _ _)
   | (with_reducible exact LeO.refl _)
   | (with_reducible exact LeO.none _)
   | (with_reducible refine LeO.ite ?_ ?_)
   | (with_reducible refine LeO.bind ?_ (fun _ => ?_))
   | exact ih0 _ _ _ _ _
   | exact ih1 _ _ _ _ _ _
   | exact ih2 _ _ _ _ _ _ _
   | exact ih3 _ _ _ _ _ _ _
   | exact ih4 _ _ _ _ _ _ _ _
   | exact ih5 _ _ _ _ _ _ _ _
   | exact ih6 _ _ _ _ _ _ _ _
   | exact ih7 _ _ _ _ _ _ _ _ _
   | exact sobriquetkeep_Ints.mono _ _ _
   | exact LeO.none _
   | refine LeO.ite ?_ ?_
   | refine LeO.bind ?_ (fun _ => ?_)
theorem sobriquetref05_Pack.mono : ∀ a0 k, LeO (sobriquetref05_Pack.f k a0) (sobriquetref05_Pack.f (k + 1) a0) := by
 intro a0 k
 obtain ⟨ih0, ih1, ih2, ih3, ih4, ih5, ih6, ih7⟩ := sobriquetref05_Pack.mono_l k
 unfold sobriquetref05_Pack.f
 repeat' first
   | (with_reducible exact ih0 _ _ _ _ _)
   | (with_reducible exact ih1 _ _ _ _ _ _)
   | (with_reducible exact ih2 _ _ _ _ _ _ _)
   | (with_reducible exact ih3 _ _ _ _ _ _ _)
   | (with_reducible exact ih4 _ _ _ _ _ _ _ _)
   | (with_reducible exact ih5 _ _ _ _ _ _ _ _)
   | (with_reducible exact ih6 _ _ _ _ _ _ _ _)
   | (with_reducible exact ih7 _ _ _ _ _ _ _ _ _)
   | (with_reducible exact sobriquetkeep_Ints.mono _ _ _)
   | (with_reducible exact LeO.refl _)
   | (with_reducible exact LeO.none _)
   | (with_reducible refine LeO.ite ?_ ?_)
   | (with_reducible refine LeO.bind ?_ (fun _ => ?_))
   | exact ih0 _ _ _ _ _
   | exact ih1 _ _ _ _ _ _
   | exact ih2 _ _ _ _ _ _ _
   | exact ih3 _ _ _ _ _ _ _
   | exact ih4 _ _ _ _ _ _ _ _
   | exact ih5 _ _ _ _ _ _ _ _
   | exact ih6 _ _ _ _ _ _ _ _
   | exact ih7 _ _ _ _ _ _ _ _ _
   | exact sobriquetkeep_Ints.mono _ _ _
   | exact LeO.none _
   | refine LeO.ite ?_ ?_
   | refine LeO.bind ?_ (fun _ => ?_)
set_option maxHeartbeats 8000000 in
set_option maxRecDepth 100000 in
theorem sobriquetref05_Pack.calls (k : Nat) (A0 : Option Addr) (c0 : Nat) (l0 : List (S44)) (r1 : List Int) (r2 : List Int) (w : World) (hr0 : Kd.C k44 w A0 l0.length l0) (hc0 : l0.length ≤ c0) (h : sobriquetref05_Pack.f k l0 = some (r1, r2)) :
  Calls Try.prog 20 #[.slice A0 l0.length c0] w fun e w' => ∃ v0_ v1_ : Value, e = .returned (.agg #[v0_, v1_]) ∧ Kd.R (Kd.int .i64) 3 w' w.heap.size (fun k_ => some k_ ≠ (v1_ : Value).ownBlock) v0_ r1 ∧ Kd.R (Kd.int .i64) 3 w' w.heap.size (fun k_ => some k_ ≠ (v0_ : Value).ownBlock) v1_ r2 ∧ Below w.heap.size w w' := by
 have hu25 := Try.underlying25
 have HR0 := Aside0.mk hr0
 have HC0 := Aside0.mk hc0
 clear hr0 hc0
 have HB := Aside0.mk (Below.refl w.heap.size w)
 have H : (sobriquetref05_Pack.l0 k l0 0 0 ([] : List Int) ([] : List Int)) = some (r1, r2) := h
 clear h
 have H' := Aside0.mk H
 clear H
 go_enter Try.func20, Try.ntmps20
 go_wp2_with (first | ((with_reducible refine gate_dst (N := 2) rfl ?_); (try (refine gate_guard (by rfl) ?_; dsimp only)); refine box_event ?hg (N := 2) ?hd (cs := #[.slice none 0 0, .slice none 0 0]) (t := 25) ?hr ?_; (case hd => rfl); (case hg => rfl); (case hr => first | (go_simp; done) | (go_simp; rfl)); intro gb192 hg w2 hbox hb; have n0_ := Aside0.mk (below_step (by repeat (first | (with_reducible first | exact HB.out | apply below_alloc | apply pw_below_drewN | apply below_drew1) | exact HB.out)) hb); have n1_ := Aside0.mk (hbox); have n2_ := Aside0.mk ((by rw [hg]; exact (below_size (by repeat (first | (with_reducible first | exact HB.out | apply below_alloc | apply pw_below_drewN | apply below_drew1) | exact HB.out))) : w.heap.size ≤ gb192)); have n3_ := Aside0.mk ((by rw [hg]; exact (below_size (by repeat (first | (with_reducible first | exact HB.out | apply below_alloc | apply pw_below_drewN | apply below_drew1) | exact HB.out))) : w.heap.size ≤ gb192)); clear HB; have HB := n0_; have BK192 := n1_; have GW192 := n2_; have GE192 := n3_; clear n0_ n1_ n2_ n3_; clear hb hbox hg) | ((with_reducible refine gate_dst (N := 3) rfl ?_); (try (refine gate_guard (by rfl) ?_; dsimp only)); refine box_event ?hg (N := 3) ?hd (cs := #[.slice none 0 0, .slice none 0 0]) (t := 25) ?hr ?_; (case hd => rfl); (case hg => rfl); (case hr => first | (go_simp; done) | (go_simp; rfl)); intro gb193 hg w3 hbox hb; have n0_ := Aside0.mk (blk_below (g := gb192) (o := .cells #[.slice none 0 0, .slice none 0 0] 25 (0, 0)) (by (with_reducible repeat (first | refine blk_drewN ?_ _ | refine blk_drew ?_ | refine blk_alloc ?_ _)); exact BK192.out) hb); have n1_ := Aside0.mk (below_step (by repeat (first | (with_reducible first | exact HB.out | apply below_alloc | apply pw_below_drewN | apply below_drew1 | refine below_set ?_ GE192.out) | exact HB.out)) hb); have n2_ := Aside0.mk (hbox); have n3_ := Aside0.mk ((by rw [hg]; exact (below_size (by repeat (first | (with_reducible first | exact HB.out | apply below_alloc | apply pw_below_drewN | apply below_drew1 | refine below_set ?_ GE192.out) | exact HB.out))) : w.heap.size ≤ gb193)); have n4_ := Aside0.mk ((by rw [hg]; exact (below_size (by repeat (first | (with_reducible first | exact HB.out | apply below_alloc | apply pw_below_drewN | apply below_drew1 | refine below_set ?_ GE192.out) | exact HB.out))) : w.heap.size ≤ gb193)); have n5_ := Aside0.mk ((by rw [hg]; exact Nat.ne_of_lt (blk_lt (g := gb192) (o := .cells #[.slice none 0 0, .slice none 0 0] 25 (0, 0)) (by (with_reducible repeat (first | refine blk_drewN ?_ _ | refine blk_drew ?_ | refine blk_alloc ?_ _)); exact BK192.out)) : gb192 ≠ gb193)); have n6_ := Aside0.mk ((by rw [hg]; exact Nat.ne_of_gt (blk_lt (g := gb192) (o := .cells #[.slice none 0 0, .slice none 0 0] 25 (0, 0)) (by (with_reducible repeat (first | refine blk_drewN ?_ _ | refine blk_drew ?_ | refine blk_alloc ?_ _)); exact BK192.out)) : gb193 ≠ gb192)); clear BK192; clear HB; have BK192 := n0_; have HB := n1_; have BK193 := n2_; have GW193 := n3_; have GE193 := n4_; have NB192_193 := n5_; have NB193_192 := n6_; clear n0_ n1_ n2_ n3_ n4_ n5_ n6_; clear hb hbox hg))
 go_loopg [4, 5] k (fun kq v4 v5 w' => ∃ (x4_1 : Int) (x5_1 : Int) (x194000_1 : List Int) (x194001_1 : List Int) (u194000 : Value) (u194001 : Value), v4 = .int .i64 x4_1 ∧ v5 = .int .i64 x5_1 ∧ Aside0 (sobriquetref05_Pack.l0 kq l0 x4_1 x5_1 x194000_1 x194001_1 = some (r1, r2)) ∧ Aside0 (kq ≤ k) ∧ Aside0 (Kd.R (Kd.int .i64) 3 w' w.heap.size (fun k_ => some k_ ≠ (u194001 : Value).ownBlock) u194000 x194000_1) ∧ Aside0 (Kd.R (Kd.int .i64) 3 w' w.heap.size (fun k_ => some k_ ≠ (u194000 : Value).ownBlock) u194001 x194001_1) ∧ Aside0 (w'.heap[gb192]? = some (.cells #[(.slice none 0 0), (.slice none 0 0)] 25 (0, 0))) ∧ Aside0 (w'.heap[gb193]? = some (.cells #[u194000, u194001] 25 (0, 0))) ∧ Aside0 (Below w.heap.size w w'))
 case atStart => exact ⟨(0), (0), (([] : List Int)), (([] : List Int)), (.slice none 0 0), (.slice none 0 0), (by first | rfl | (simp; done) | (simp [*]; done)), (by first | rfl | (simp; done) | (simp [*]; done)), H', ⟨Nat.le_refl _⟩, ⟨by first | exact Kd.R_nil _ _ _ _ _ | exact Kd.N_nil _ _ _ _ _ | exact Kd.V_nil _ _ _ _ _ | exact Kd.Q_nil _ _ _ _ _ | exact Kd.S_nil _ _ _ _ _⟩, ⟨by first | exact Kd.R_nil _ _ _ _ _ | exact Kd.N_nil _ _ _ _ _ | exact Kd.V_nil _ _ _ _ _ | exact Kd.Q_nil _ _ _ _ _ | exact Kd.S_nil _ _ _ _ _⟩, ⟨by (with_reducible repeat (first | refine blk_drewN ?_ _ | refine blk_drew ?_ | refine blk_alloc ?_ _)); exact BK192.out⟩, ⟨by (with_reducible repeat (first | refine blk_drewN ?_ _ | refine blk_drew ?_ | refine blk_alloc ?_ _)); exact BK193.out⟩, ⟨by repeat (first | (with_reducible first | exact HB.out | apply below_alloc | apply pw_below_drewN | apply below_drew1 | refine below_set ?_ GE192.out | refine below_set ?_ GE193.out) | exact HB.out)⟩⟩
 case round =>
  clear H'
  try clear c2
  try clear p2
  obtain ⟨x4_1, x5_1, x194000_1, x194001_1, u194000, u194001, rfl, rfl, HA, HK1, HO_194000, HO_194001, BK192, BK193, HB⟩ := hrel
  cases gk with
  | zero => exact absurd HA.out (by simp [sobriquetref05_Pack.l0])
  | succ k1 =>
   have H := HA.out
   clear HA
   simp only [sobriquetref05_Pack.l0] at H
   by_cases c4 : x5_1 < 4352
   ·
    rw [if_pos c4] at H
    have c4b0 : decide (x5_1 < 4352) = true := decide_eq_true c4
    clear c4
    by_cases c5 : 256 ≤ 35184372088832
    ·
     rw [if_pos c5] at H
     have c5b0 := eq_true c5
     have c5b1 : decide (256 ≤ 35184372088832) = true := decide_eq_true c5
     clear c5
     obtain ⟨y194, hy194⟩ : ∃ y_ : List Int, y_ = (List.replicate 256 0) := ⟨_, rfl⟩
     replace H : (sobriquetref05_Pack.l1 k1 l0 x4_1 x5_1 y194 x194000_1 x194001_1) = some (r1, r2) := by first | (rw [hy194]; with_reducible exact H) | (have H2_ := (Option.bind_some _ _).symm.trans H; rw [hy194]; with_reducible exact H2_) | (have H2_ := (Option.bind_some _ _).symm.trans H; with_reducible exact H2_) | with_reducible exact H | (rw [hy194]; exact H) | exact H
     have Ny194 := Aside0.mk hy194
     clear hy194
     have H' := Aside0.mk H
     clear H
     go_wp2_with (first | ((with_reducible refine gate_dst (N := 15) rfl ?_); (try (refine gate_guard (by rfl) ?_; dsimp only)); refine Kd.R_make (Kd.int .i64) _ 3 rfl (N := 15) rfl 23 _ _ rfl 256 rfl rfl Try.underlying23 (.int .i64 0) 8 info3 rfl (by decide) (by omega) 0 (ok := fun _ => True) (okp := fun _ => True) rfl (fun _ hk => hk) trivial (by omega) (by omega) (Below.refl _ _) (Nat.le_refl _) ?_; intro v195 w6 ho7 hb hg_ hnew_; clear hg_ hnew_; (first | rw [← Ny194.out] at ho7 | (simp only [Int.reduceToNat] at ho7; rw [← Ny194.out] at ho7)); have n0_ := Aside0.mk (Kd.R_elder' (by (with_reducible repeat (first | apply Kd.R_alloc | apply Kd.R_drewN | apply Kd.R_drew)); exact HO_194000.out) (Kd.R_base ho7) hb); have n1_ := Aside0.mk (Kd.R_elder' (by (with_reducible repeat (first | apply Kd.R_alloc | apply Kd.R_drewN | apply Kd.R_drew)); exact HO_194001.out) (Kd.R_base ho7) hb); have n2_ := Aside0.mk (Kd.R_lower (Kd.R_new' (Kd.R_new' ho7 (Kd.R_lt (by (with_reducible repeat (first | apply Kd.R_alloc | apply Kd.R_drewN | apply Kd.R_drew)); exact HO_194000.out))) (Kd.R_lt (by (with_reducible repeat (first | apply Kd.R_alloc | apply Kd.R_drewN | apply Kd.R_drew)); exact HO_194001.out))) (below_size (by repeat (first | (with_reducible first | exact HB.out | apply below_alloc | apply pw_below_drewN | apply below_drew1 | refine below_set ?_ GE192.out | refine below_set ?_ GE193.out) | exact HB.out)))); have n3_ := Aside0.mk (blk_below (g := gb192) (o := .cells #[.slice none 0 0, .slice none 0 0] 25 (0, 0)) (by (with_reducible repeat (first | refine blk_drewN ?_ _ | refine blk_drew ?_ | refine blk_alloc ?_ _)); exact BK192.out) hb); have n4_ := Aside0.mk (blk_below (g := gb193) (o := .cells #[u194000, u194001] 25 (0, 0)) (by (with_reducible repeat (first | refine blk_drewN ?_ _ | refine blk_drew ?_ | refine blk_alloc ?_ _)); exact BK193.out) hb); have n5_ := Aside0.mk (below_step (by repeat (first | (with_reducible first | exact HB.out | apply below_alloc | apply pw_below_drewN | apply below_drew1 | refine below_set ?_ GE192.out | refine below_set ?_ GE193.out) | exact HB.out)) hb); clear HO_194000; clear HO_194001; clear BK192; clear BK193; clear HB; have HO_194000 := n0_; have HO_194001 := n1_; have HO196 := n2_; have BK192 := n3_; have BK193 := n4_; have HB := n5_; clear n0_ n1_ n2_ n3_ n4_ n5_; clear hb ho7))
     go_loopg [4] k1 (fun kq v4 w' => ∃ (x4_2 : Int), v4 = .int .i64 x4_2 ∧ Aside0 (sobriquetref05_Pack.l1 kq l0 x4_2 x5_1 y194 x194000_1 x194001_1 = some (r1, r2)) ∧ Aside0 (kq ≤ k1) ∧ Aside0 (Kd.R (Kd.int .i64) 3 w' w.heap.size (fun k_ => some k_ ≠ (u194000 : Value).ownBlock ∧ some k_ ≠ (u194001 : Value).ownBlock) v195 y194) ∧ Aside0 (Kd.R (Kd.int .i64) 3 w' w.heap.size (fun k_ => some k_ ≠ (v195 : Value).ownBlock ∧ some k_ ≠ (u194001 : Value).ownBlock) u194000 x194000_1) ∧ Aside0 (Kd.R (Kd.int .i64) 3 w' w.heap.size (fun k_ => some k_ ≠ (v195 : Value).ownBlock ∧ some k_ ≠ (u194000 : Value).ownBlock) u194001 x194001_1) ∧ Aside0 (w'.heap[gb192]? = some (.cells #[(.slice none 0 0), (.slice none 0 0)] 25 (0, 0))) ∧ Aside0 (w'.heap[gb193]? = some (.cells #[u194000, u194001] 25 (0, 0))) ∧ Aside0 (Below w.heap.size w w'))
     case atStart => exact ⟨(x4_1), (by first | rfl | (simp; done) | (simp [*]; done)), H', ⟨Nat.le_refl _⟩, ⟨by (with_reducible repeat (first | apply Kd.R_alloc | apply Kd.R_drewN | apply Kd.R_drew)); exact Kd.R_mono HO196.out (fun _ hk => ⟨hk.1.2, hk.2⟩)⟩, ⟨by (with_reducible repeat (first | apply Kd.R_alloc | apply Kd.R_drewN | apply Kd.R_drew)); exact Kd.R_mono HO_194000.out (fun _ hk => ⟨hk.2, hk.1⟩)⟩, ⟨by (with_reducible repeat (first | apply Kd.R_alloc | apply Kd.R_drewN | apply Kd.R_drew)); exact Kd.R_mono HO_194001.out (fun _ hk => ⟨hk.2, hk.1⟩)⟩, ⟨by (with_reducible repeat (first | refine blk_drewN ?_ _ | refine blk_drew ?_ | refine blk_alloc ?_ _)); exact BK192.out⟩, ⟨by (with_reducible repeat (first | refine blk_drewN ?_ _ | refine blk_drew ?_ | refine blk_alloc ?_ _)); exact BK193.out⟩, ⟨by repeat (first | (with_reducible first | exact HB.out | apply below_alloc | apply pw_below_drewN | apply below_drew1 | refine below_set ?_ GE192.out | refine below_set ?_ GE193.out) | exact HB.out)⟩⟩
     case round =>
      clear H'
      try clear c2
      try clear p2
      try clear c4
      try clear c4b0
      try clear c5
      try clear c5b0
      try clear c5b1
      try clear p2
      obtain ⟨x4_2, rfl, HA, HK2, HO_6, HO_194000, HO_194001, BK192, BK193, HB⟩ := hrel
      cases gk with
      | zero => exact absurd HA.out (by simp [sobriquetref05_Pack.l1])
      | succ k2 =>
       have H := HA.out
       clear HA
       simp only [sobriquetref05_Pack.l1] at H
       have HC8 := Aside0.mk H
       clear H
       go_upto_region 7 with (fail)
       go_cut [29] (fun v29 wc => ∃ (kq : Nat) (x29_7 : Bool), v29 = .bool x29_7 ∧ Aside0 (sobriquetref05_Pack.j2 kq l0 x4_2 x5_1 y194 x29_7 x194000_1 x194001_1 = some (r1, r2)) ∧ Aside0 (kq ≤ k2) ∧ Aside0 (Kd.R (Kd.int .i64) 3 wc w.heap.size (fun k_ => some k_ ≠ (u194000 : Value).ownBlock ∧ some k_ ≠ (u194001 : Value).ownBlock) v195 y194) ∧ Aside0 (Kd.R (Kd.int .i64) 3 wc w.heap.size (fun k_ => some k_ ≠ (v195 : Value).ownBlock ∧ some k_ ≠ (u194001 : Value).ownBlock) u194000 x194000_1) ∧ Aside0 (Kd.R (Kd.int .i64) 3 wc w.heap.size (fun k_ => some k_ ≠ (v195 : Value).ownBlock ∧ some k_ ≠ (u194000 : Value).ownBlock) u194001 x194001_1) ∧ Aside0 (wc.heap[gb192]? = some (.cells #[(.slice none 0 0), (.slice none 0 0)] 25 (0, 0))) ∧ Aside0 (wc.heap[gb193]? = some (.cells #[u194000, u194001] 25 (0, 0))) ∧ Aside0 (Below w.heap.size w wc))
       case first =>
        have H := HC8.out
        clear HC8
        by_cases c9 : x4_2 < (l0.length : Int)
        ·
         rw [if_pos c9] at H
         have c9b0 : decide (x4_2 < (l0.length : Int)) = true := decide_eq_true c9
         clear c9
         (first | rw [c9b0] | (simp only [i64_w, i32_w]; rw [c9b0]) | skip)
         by_cases c10 : 0 ≤ x4_2
         ·
          rw [if_pos c10] at H
          have c10b0 : decide (0 ≤ x4_2) = true := decide_eq_true c10
          clear c10
          have H' := Aside0.mk H
          clear H
          have p197 : 0 ≤ (x4_2 : Int) := of_decide_eq_true (by first | (with_reducible assumption) | assumption)
          have q197 : x4_2 < (l0.length : Int) := of_decide_eq_true (by first | (with_reducible assumption) | assumption)
          obtain ⟨ad197, e197, hx197_0, hx197_1, hx197_2⟩ := at_T44 HR0.out x4_2 p197 q197
          cases e197
          replace hx197_0 := (HB.out.cell (World.block_lt_of_cell? w _ hx197_0)).trans hx197_0
          replace hx197_1 := (HB.out.cell (World.block_lt_of_cell? w _ hx197_1)).trans hx197_1
          replace hx197_2 := (HB.out.cell (World.block_lt_of_cell? w _ hx197_2)).trans hx197_2
          replace p197 := eq_true p197
          replace q197 := eq_true q197
          go_wp2
          go_meet
          case rel => exact ⟨_, (decide (((rd_T44 l0 x4_2).f1) < (wrap64 (256 * x5_1)))), (by first | rfl | (simp; done) | (simp [*]; done)), H', ⟨by have := HK1.out; have := HK2.out; first | omega | exact Nat.le_refl _⟩, ⟨by (with_reducible repeat (first | apply Kd.R_alloc | apply Kd.R_drewN | apply Kd.R_drew)); exact HO_6.out⟩, ⟨by (with_reducible repeat (first | apply Kd.R_alloc | apply Kd.R_drewN | apply Kd.R_drew)); exact HO_194000.out⟩, ⟨by (with_reducible repeat (first | apply Kd.R_alloc | apply Kd.R_drewN | apply Kd.R_drew)); exact HO_194001.out⟩, ⟨by (with_reducible repeat (first | refine blk_drewN ?_ _ | refine blk_drew ?_ | refine blk_alloc ?_ _)); exact BK192.out⟩, ⟨by (with_reducible repeat (first | refine blk_drewN ?_ _ | refine blk_drew ?_ | refine blk_alloc ?_ _)); exact BK193.out⟩, ⟨by repeat (first | (with_reducible first | exact HB.out | apply below_alloc | apply pw_below_drewN | apply below_drew1 | refine below_set ?_ GE192.out | refine below_set ?_ GE193.out) | exact HB.out)⟩⟩
         ·
          rw [if_neg c10] at H
          exact absurd H (by simp)
        ·
         rw [if_neg c9] at H
         have c9b0 : decide (x4_2 < (l0.length : Int)) = false := decide_eq_false c9
         clear c9
         (first | rw [c9b0] | (simp only [i64_w, i32_w]; rw [c9b0]) | skip)
         have H' := Aside0.mk H
         clear H
         go_wp2
         go_meet
         case rel => exact ⟨_, (false), (by first | rfl | (simp; done) | (simp [*]; done)), H', ⟨by have := HK1.out; have := HK2.out; first | omega | exact Nat.le_refl _⟩, ⟨by (with_reducible repeat (first | apply Kd.R_alloc | apply Kd.R_drewN | apply Kd.R_drew)); exact HO_6.out⟩, ⟨by (with_reducible repeat (first | apply Kd.R_alloc | apply Kd.R_drewN | apply Kd.R_drew)); exact HO_194000.out⟩, ⟨by (with_reducible repeat (first | apply Kd.R_alloc | apply Kd.R_drewN | apply Kd.R_drew)); exact HO_194001.out⟩, ⟨by (with_reducible repeat (first | refine blk_drewN ?_ _ | refine blk_drew ?_ | refine blk_alloc ?_ _)); exact BK192.out⟩, ⟨by (with_reducible repeat (first | refine blk_drewN ?_ _ | refine blk_drew ?_ | refine blk_alloc ?_ _)); exact BK193.out⟩, ⟨by repeat (first | (with_reducible first | exact HB.out | apply below_alloc | apply pw_below_drewN | apply below_drew1 | refine below_set ?_ GE192.out | refine below_set ?_ GE193.out) | exact HB.out)⟩⟩
       case rest =>
        clear HC8
        try clear c1
        try clear p1
        try clear q1
        try clear hx1
        try clear c2
        try clear p2
        try clear c4
        try clear c4b0
        try clear c5
        try clear c5b0
        try clear c5b1
        try clear p6
        try clear c9
        try clear c9b0
        try clear c10
        try clear c10b0
        try clear hx197_0
        try clear hx197_1
        try clear hx197_2
        try clear p197
        try clear p2
        try clear q197
        obtain ⟨kq, x29_7, rfl, HA, HJ7, HO_6, HO_194000, HO_194001, BK192, BK193, HB⟩ := hcut
        cases kq with
        | zero => exact absurd HA.out (by simp [sobriquetref05_Pack.j2])
        | succ kj7 =>
         have H := HA.out
         clear HA
         simp only [sobriquetref05_Pack.j2] at H
         by_cases c11 : x29_7 = true
         ·
          subst c11
          have H1 : (sobriquetref05_Pack.l1 kj7 l0 (wrap64 (x4_2 + 1)) x5_1 y194 x194000_1 x194001_1) = some (r1, r2) := by rw [if_pos rfl] at H; exact H
          clear H
          have H := H1
          clear H1
          have H' := Aside0.mk H
          clear H
          go_wp2
          go_roundg kj7
          case measure => have := HK1.out; have := HK2.out; have := HJ7.out; omega
          case rel => exact ⟨(wrap64 (x4_2 + 1)), (by first | rfl | (simp; done) | (simp [*]; done)), H', ⟨by have := HK1.out; have := HK2.out; have := HJ7.out; omega⟩, ⟨by (with_reducible repeat (first | apply Kd.R_alloc | apply Kd.R_drewN | apply Kd.R_drew)); exact HO_6.out⟩, ⟨by (with_reducible repeat (first | apply Kd.R_alloc | apply Kd.R_drewN | apply Kd.R_drew)); exact HO_194000.out⟩, ⟨by (with_reducible repeat (first | apply Kd.R_alloc | apply Kd.R_drewN | apply Kd.R_drew)); exact HO_194001.out⟩, ⟨by (with_reducible repeat (first | refine blk_drewN ?_ _ | refine blk_drew ?_ | refine blk_alloc ?_ _)); exact BK192.out⟩, ⟨by (with_reducible repeat (first | refine blk_drewN ?_ _ | refine blk_drew ?_ | refine blk_alloc ?_ _)); exact BK193.out⟩, ⟨by repeat (first | (with_reducible first | exact HB.out | apply below_alloc | apply pw_below_drewN | apply below_drew1 | refine below_set ?_ GE192.out | refine below_set ?_ GE193.out) | exact HB.out)⟩⟩
         ·
          replace c11 := Bool.eq_false_iff.mpr c11
          subst c11
          have H1 : (sobriquetref05_Pack.l2 kj7 l0 x4_2 x5_1 y194 x4_2 x194000_1 x194001_1) = some (r1, r2) := by rw [if_neg (show ¬ (false = true) by decide)] at H; exact H
          clear H
          have H := H1
          clear H1
          have H' := Aside0.mk H
          clear H
          go_wp2
          go_loopg [7] kj7 (fun kq v7 w' => ∃ (x6_4 : List Int) (x7_4 : Int), v7 = .int .i64 x7_4 ∧ Aside0 (sobriquetref05_Pack.l2 kq l0 x4_2 x5_1 x6_4 x7_4 x194000_1 x194001_1 = some (r1, r2)) ∧ Aside0 (kq ≤ kj7) ∧ Aside0 (Kd.R (Kd.int .i64) 3 w' w.heap.size (fun k_ => some k_ ≠ (u194000 : Value).ownBlock ∧ some k_ ≠ (u194001 : Value).ownBlock) v195 x6_4) ∧ Aside0 (Kd.R (Kd.int .i64) 3 w' w.heap.size (fun k_ => some k_ ≠ (v195 : Value).ownBlock ∧ some k_ ≠ (u194001 : Value).ownBlock) u194000 x194000_1) ∧ Aside0 (Kd.R (Kd.int .i64) 3 w' w.heap.size (fun k_ => some k_ ≠ (v195 : Value).ownBlock ∧ some k_ ≠ (u194000 : Value).ownBlock) u194001 x194001_1) ∧ Aside0 (w'.heap[gb192]? = some (.cells #[(.slice none 0 0), (.slice none 0 0)] 25 (0, 0))) ∧ Aside0 (w'.heap[gb193]? = some (.cells #[u194000, u194001] 25 (0, 0))) ∧ Aside0 (Below w.heap.size w w'))
          case atStart => exact ⟨(y194), (x4_2), (by first | rfl | (simp; done) | (simp [*]; done)), H', ⟨Nat.le_refl _⟩, ⟨by (with_reducible repeat (first | apply Kd.R_alloc | apply Kd.R_drewN | apply Kd.R_drew)); exact HO_6.out⟩, ⟨by (with_reducible repeat (first | apply Kd.R_alloc | apply Kd.R_drewN | apply Kd.R_drew)); exact HO_194000.out⟩, ⟨by (with_reducible repeat (first | apply Kd.R_alloc | apply Kd.R_drewN | apply Kd.R_drew)); exact HO_194001.out⟩, ⟨by (with_reducible repeat (first | refine blk_drewN ?_ _ | refine blk_drew ?_ | refine blk_alloc ?_ _)); exact BK192.out⟩, ⟨by (with_reducible repeat (first | refine blk_drewN ?_ _ | refine blk_drew ?_ | refine blk_alloc ?_ _)); exact BK193.out⟩, ⟨by repeat (first | (with_reducible first | exact HB.out | apply below_alloc | apply pw_below_drewN | apply below_drew1 | refine below_set ?_ GE192.out | refine below_set ?_ GE193.out) | exact HB.out)⟩⟩
          case round =>
           clear H'
           try clear c1
           try clear p1
           try clear q1
           try clear hx1
           try clear c2
           try clear p2
           try clear c4
           try clear c4b0
           try clear c5
           try clear c5b0
           try clear c5b1
           try clear p6
           try clear c9
           try clear c9b0
           try clear c10
           try clear c10b0
           try clear c11
           try clear hx197_0
           try clear hx197_1
           try clear hx197_2
           try clear p1
           try clear p197
           try clear p2
           try clear p6
           try clear q1
           try clear q197
           obtain ⟨x6_4, x7_4, rfl, HA, HK4, HO_6, HO_194000, HO_194001, BK192, BK193, HB⟩ := hrel
           cases gk with
           | zero => exact absurd HA.out (by simp [sobriquetref05_Pack.l2])
           | succ k4 =>
            have H := HA.out
            clear HA
            simp only [sobriquetref05_Pack.l2] at H
            have HC12 := Aside0.mk H
            clear H
            go_upto_region 10 with (fail)
            go_cut [47] (fun v47 wc => ∃ (kq : Nat) (x47_11 : Bool), v47 = .bool x47_11 ∧ Aside0 (sobriquetref05_Pack.j4 kq l0 x4_2 x5_1 x6_4 x7_4 x47_11 x194000_1 x194001_1 = some (r1, r2)) ∧ Aside0 (kq ≤ k4) ∧ Aside0 (Kd.R (Kd.int .i64) 3 wc w.heap.size (fun k_ => some k_ ≠ (u194000 : Value).ownBlock ∧ some k_ ≠ (u194001 : Value).ownBlock) v195 x6_4) ∧ Aside0 (Kd.R (Kd.int .i64) 3 wc w.heap.size (fun k_ => some k_ ≠ (v195 : Value).ownBlock ∧ some k_ ≠ (u194001 : Value).ownBlock) u194000 x194000_1) ∧ Aside0 (Kd.R (Kd.int .i64) 3 wc w.heap.size (fun k_ => some k_ ≠ (v195 : Value).ownBlock ∧ some k_ ≠ (u194000 : Value).ownBlock) u194001 x194001_1) ∧ Aside0 (wc.heap[gb192]? = some (.cells #[(.slice none 0 0), (.slice none 0 0)] 25 (0, 0))) ∧ Aside0 (wc.heap[gb193]? = some (.cells #[u194000, u194001] 25 (0, 0))) ∧ Aside0 (Below w.heap.size w wc))
            case first =>
             have H := HC12.out
             clear HC12
             by_cases c13 : x7_4 < (l0.length : Int)
             ·
              rw [if_pos c13] at H
              have c13b0 : decide (x7_4 < (l0.length : Int)) = true := decide_eq_true c13
              clear c13
              (first | rw [c13b0] | (simp only [i64_w, i32_w]; rw [c13b0]) | skip)
              by_cases c14 : 0 ≤ x7_4
              ·
               rw [if_pos c14] at H
               have c14b0 : decide (0 ≤ x7_4) = true := decide_eq_true c14
               clear c14
               have H' := Aside0.mk H
               clear H
               have p198 : 0 ≤ (x7_4 : Int) := of_decide_eq_true (by first | (with_reducible assumption) | assumption)
               have q198 : x7_4 < (l0.length : Int) := of_decide_eq_true (by first | (with_reducible assumption) | assumption)
               obtain ⟨ad198, e198, hx198_0, hx198_1, hx198_2⟩ := at_T44 HR0.out x7_4 p198 q198
               cases e198
               replace hx198_0 := (HB.out.cell (World.block_lt_of_cell? w _ hx198_0)).trans hx198_0
               replace hx198_1 := (HB.out.cell (World.block_lt_of_cell? w _ hx198_1)).trans hx198_1
               replace hx198_2 := (HB.out.cell (World.block_lt_of_cell? w _ hx198_2)).trans hx198_2
               replace p198 := eq_true p198
               replace q198 := eq_true q198
               go_wp2
               go_meet
               case rel => exact ⟨_, (decide (((rd_T44 l0 x7_4).f0) < (wrap64 (256 * (wrap64 (x5_1 + 1)))))), (by first | rfl | (simp; done) | (simp [*]; done)), H', ⟨by have := HK1.out; have := HK2.out; have := HJ7.out; have := HK4.out; first | omega | exact Nat.le_refl _⟩, ⟨by (with_reducible repeat (first | apply Kd.R_alloc | apply Kd.R_drewN | apply Kd.R_drew)); exact HO_6.out⟩, ⟨by (with_reducible repeat (first | apply Kd.R_alloc | apply Kd.R_drewN | apply Kd.R_drew)); exact HO_194000.out⟩, ⟨by (with_reducible repeat (first | apply Kd.R_alloc | apply Kd.R_drewN | apply Kd.R_drew)); exact HO_194001.out⟩, ⟨by (with_reducible repeat (first | refine blk_drewN ?_ _ | refine blk_drew ?_ | refine blk_alloc ?_ _)); exact BK192.out⟩, ⟨by (with_reducible repeat (first | refine blk_drewN ?_ _ | refine blk_drew ?_ | refine blk_alloc ?_ _)); exact BK193.out⟩, ⟨by repeat (first | (with_reducible first | exact HB.out | apply below_alloc | apply pw_below_drewN | apply below_drew1 | refine below_set ?_ GE192.out | refine below_set ?_ GE193.out) | exact HB.out)⟩⟩
              ·
               rw [if_neg c14] at H
               exact absurd H (by simp)
             ·
              rw [if_neg c13] at H
              have c13b0 : decide (x7_4 < (l0.length : Int)) = false := decide_eq_false c13
              clear c13
              (first | rw [c13b0] | (simp only [i64_w, i32_w]; rw [c13b0]) | skip)
              have H' := Aside0.mk H
              clear H
              go_wp2
              go_meet
              case rel => exact ⟨_, (false), (by first | rfl | (simp; done) | (simp [*]; done)), H', ⟨by have := HK1.out; have := HK2.out; have := HJ7.out; have := HK4.out; first | omega | exact Nat.le_refl _⟩, ⟨by (with_reducible repeat (first | apply Kd.R_alloc | apply Kd.R_drewN | apply Kd.R_drew)); exact HO_6.out⟩, ⟨by (with_reducible repeat (first | apply Kd.R_alloc | apply Kd.R_drewN | apply Kd.R_drew)); exact HO_194000.out⟩, ⟨by (with_reducible repeat (first | apply Kd.R_alloc | apply Kd.R_drewN | apply Kd.R_drew)); exact HO_194001.out⟩, ⟨by (with_reducible repeat (first | refine blk_drewN ?_ _ | refine blk_drew ?_ | refine blk_alloc ?_ _)); exact BK192.out⟩, ⟨by (with_reducible repeat (first | refine blk_drewN ?_ _ | refine blk_drew ?_ | refine blk_alloc ?_ _)); exact BK193.out⟩, ⟨by repeat (first | (with_reducible first | exact HB.out | apply below_alloc | apply pw_below_drewN | apply below_drew1 | refine below_set ?_ GE192.out | refine below_set ?_ GE193.out) | exact HB.out)⟩⟩
            case rest =>
             clear HC12
             try clear c1
             try clear p1
             try clear q1
             try clear hx1
             try clear c2
             try clear p2
             try clear c4
             try clear c4b0
             try clear c5
             try clear c5b0
             try clear c5b1
             try clear p6
             try clear c9
             try clear c9b0
             try clear c10
             try clear c10b0
             try clear c11
             try clear c13
             try clear c13b0
             try clear c14
             try clear c14b0
             try clear hx197_0
             try clear hx197_1
             try clear hx197_2
             try clear hx198_0
             try clear hx198_1
             try clear hx198_2
             try clear p1
             try clear p197
             try clear p198
             try clear p2
             try clear p6
             try clear q1
             try clear q197
             try clear q198
             obtain ⟨kq, x47_11, rfl, HA, HJ11, HO_6, HO_194000, HO_194001, BK192, BK193, HB⟩ := hcut
             cases kq with
             | zero => exact absurd HA.out (by simp [sobriquetref05_Pack.j4])
             | succ kj11 =>
              have H := HA.out
              clear HA
              simp only [sobriquetref05_Pack.j4] at H
              by_cases c15 : x47_11 = true
              ·
               subst c15
               have H1 : (if 0 ≤ x7_4 then (if x7_4 < (l0.length : Int) then (sobriquetref05_Pack.l3 kj11 l0 x4_2 x5_1 x6_4 x7_4 (mx ((rd_T44 l0 x7_4).f0) (wrap64 (256 * x5_1))) x194000_1 x194001_1) else (none)) else (none)) = some (r1, r2) := by rw [if_pos rfl] at H; exact H
               clear H
               have H := H1
               clear H1
               by_cases c16 : 0 ≤ x7_4
               ·
                rw [if_pos c16] at H
                have c16b0 : decide (0 ≤ x7_4) = true := decide_eq_true c16
                clear c16
                by_cases c17 : x7_4 < (l0.length : Int)
                ·
                 rw [if_pos c17] at H
                 have c17b0 : decide (x7_4 < (l0.length : Int)) = true := decide_eq_true c17
                 clear c17
                 obtain ⟨ji18, hji18⟩ : ∃ j_ : Int, (mx ((rd_T44 l0 x7_4).f0) (wrap64 (256 * x5_1))) = j_ := ⟨_, rfl⟩
                 replace H : (sobriquetref05_Pack.l3 kj11 l0 x4_2 x5_1 x6_4 x7_4 ji18 x194000_1 x194001_1) = some (r1, r2) := by first | (rw [hji18] at H; exact H) | (simp only [hji18] at H ⊢; exact H)
                 have hji18_ : (if ((rd_T44 l0 x7_4).f0) < (wrap64 (256 * x5_1)) then (wrap64 (256 * x5_1)) else ((rd_T44 l0 x7_4).f0)) = ji18 := hji18
                 have H' := Aside0.mk H
                 clear H
                 have p199 : 0 ≤ (x7_4 : Int) := of_decide_eq_true (by first | (with_reducible assumption) | assumption)
                 have q199 : x7_4 < (l0.length : Int) := of_decide_eq_true (by first | (with_reducible assumption) | assumption)
                 obtain ⟨ad199, e199, hx199_0, hx199_1, hx199_2⟩ := at_T44 HR0.out x7_4 p199 q199
                 cases e199
                 replace hx199_0 := (HB.out.cell (World.block_lt_of_cell? w _ hx199_0)).trans hx199_0
                 replace hx199_1 := (HB.out.cell (World.block_lt_of_cell? w _ hx199_1)).trans hx199_1
                 replace hx199_2 := (HB.out.cell (World.block_lt_of_cell? w _ hx199_2)).trans hx199_2
                 replace p199 := eq_true p199
                 replace q199 := eq_true q199
                 go_wp2
                 go_loopg [8] kj11 (fun kq v8 w' => ∃ (x6_6 : List Int) (x8_6 : Int), v8 = .int .i64 x8_6 ∧ Aside0 (sobriquetref05_Pack.l3 kq l0 x4_2 x5_1 x6_6 x7_4 x8_6 x194000_1 x194001_1 = some (r1, r2)) ∧ Aside0 (kq ≤ kj11) ∧ Aside0 (Kd.R (Kd.int .i64) 3 w' w.heap.size (fun k_ => some k_ ≠ (u194000 : Value).ownBlock ∧ some k_ ≠ (u194001 : Value).ownBlock) v195 x6_6) ∧ Aside0 (Kd.R (Kd.int .i64) 3 w' w.heap.size (fun k_ => some k_ ≠ (v195 : Value).ownBlock ∧ some k_ ≠ (u194001 : Value).ownBlock) u194000 x194000_1) ∧ Aside0 (Kd.R (Kd.int .i64) 3 w' w.heap.size (fun k_ => some k_ ≠ (v195 : Value).ownBlock ∧ some k_ ≠ (u194000 : Value).ownBlock) u194001 x194001_1) ∧ Aside0 (w'.heap[gb192]? = some (.cells #[(.slice none 0 0), (.slice none 0 0)] 25 (0, 0))) ∧ Aside0 (w'.heap[gb193]? = some (.cells #[u194000, u194001] 25 (0, 0))) ∧ Aside0 (Below w.heap.size w w'))
                 case atStart => exact ⟨(x6_4), (ji18), (by first | rfl | (simp; done) | (simp only [← hji18] <;> (first | rfl | simp)) | (simp [*]; done)), H', ⟨Nat.le_refl _⟩, ⟨by (with_reducible repeat (first | apply Kd.R_alloc | apply Kd.R_drewN | apply Kd.R_drew)); exact HO_6.out⟩, ⟨by (with_reducible repeat (first | apply Kd.R_alloc | apply Kd.R_drewN | apply Kd.R_drew)); exact HO_194000.out⟩, ⟨by (with_reducible repeat (first | apply Kd.R_alloc | apply Kd.R_drewN | apply Kd.R_drew)); exact HO_194001.out⟩, ⟨by (with_reducible repeat (first | refine blk_drewN ?_ _ | refine blk_drew ?_ | refine blk_alloc ?_ _)); exact BK192.out⟩, ⟨by (with_reducible repeat (first | refine blk_drewN ?_ _ | refine blk_drew ?_ | refine blk_alloc ?_ _)); exact BK193.out⟩, ⟨by repeat (first | (with_reducible first | exact HB.out | apply below_alloc | apply pw_below_drewN | apply below_drew1 | refine below_set ?_ GE192.out | refine below_set ?_ GE193.out) | exact HB.out)⟩⟩
                 case round =>
                  clear H'
                  try clear c1
                  try clear p1
                  try clear q1
                  try clear hx1
                  try clear c2
                  try clear p2
                  try clear c4
                  try clear c4b0
                  try clear c5
                  try clear c5b0
                  try clear c5b1
                  try clear p6
                  try clear c9
                  try clear c9b0
                  try clear c10
                  try clear c10b0
                  try clear c11
                  try clear c13
                  try clear c13b0
                  try clear c14
                  try clear c14b0
                  try clear c15
                  try clear c16
                  try clear c16b0
                  try clear c17
                  try clear c17b0
                  try clear hx197_0
                  try clear hx197_1
                  try clear hx197_2
                  try clear hx198_0
                  try clear hx198_1
                  try clear hx198_2
                  try clear hx199_0
                  try clear hx199_1
                  try clear hx199_2
                  try clear p1
                  try clear p197
                  try clear p198
                  try clear p199
                  try clear p2
                  try clear p6
                  try clear q1
                  try clear q197
                  try clear q198
                  try clear q199
                  obtain ⟨x6_6, x8_6, rfl, HA, HK6, HO_6, HO_194000, HO_194001, BK192, BK193, HB⟩ := hrel
                  cases gk with
                  | zero => exact absurd HA.out (by simp [sobriquetref05_Pack.l3])
                  | succ k6 =>
                   have H := HA.out
                   clear HA
                   simp only [sobriquetref05_Pack.l3] at H
                   by_cases c19 : 0 ≤ x7_4
                   ·
                    rw [if_pos c19] at H
                    have c19b0 : decide (0 ≤ x7_4) = true := decide_eq_true c19
                    clear c19
                    by_cases c20 : x7_4 < (l0.length : Int)
                    ·
                     rw [if_pos c20] at H
                     have c20b0 : decide (x7_4 < (l0.length : Int)) = true := decide_eq_true c20
                     clear c20
                     obtain ⟨ji21, hji21⟩ : ∃ j_ : Int, (mn ((rd_T44 l0 x7_4).f1) (wrap64 ((wrap64 (256 * x5_1)) + 255))) = j_ := ⟨_, rfl⟩
                     replace H : (if x8_6 ≤ (ji21) then (if 0 ≤ (wrap64 (x8_6 - (wrap64 (256 * x5_1)))) then (if (wrap64 (x8_6 - (wrap64 (256 * x5_1)))) < (x6_6.length : Int) then (sobriquetref05_Pack.l3 k6 l0 x4_2 x5_1 (x6_6.set ((wrap64 (x8_6 - (wrap64 (256 * x5_1)))) : Int).toNat ((rd_T44 l0 x7_4).f2)) x7_4 (wrap64 (x8_6 + 1)) x194000_1 x194001_1) else (none)) else (none)) else (sobriquetref05_Pack.l2 k6 l0 x4_2 x5_1 x6_6 (wrap64 (x7_4 + 1)) x194000_1 x194001_1)) = some (r1, r2) := by first | (rw [hji21] at H; exact H) | (simp only [hji21] at H ⊢; exact H)
                     have hji21_ : (if (wrap64 ((wrap64 (256 * x5_1)) + 255)) < ((rd_T44 l0 x7_4).f1) then (wrap64 ((wrap64 (256 * x5_1)) + 255)) else ((rd_T44 l0 x7_4).f1)) = ji21 := hji21
                     by_cases c22 : x8_6 ≤ (ji21)
                     ·
                      rw [if_pos c22] at H
                      have c22b0 : decide (x8_6 ≤ (ji21)) = true := decide_eq_true c22
                      clear c22
                      obtain ⟨ji23, hji23⟩ : ∃ j_ : Int, (wrap64 (x8_6 - (wrap64 (256 * x5_1)))) = j_ := ⟨_, rfl⟩
                      replace H : (if 0 ≤ (ji23) then (if (ji23) < (x6_6.length : Int) then (sobriquetref05_Pack.l3 k6 l0 x4_2 x5_1 (x6_6.set ((ji23) : Int).toNat ((rd_T44 l0 x7_4).f2)) x7_4 (wrap64 (x8_6 + 1)) x194000_1 x194001_1) else (none)) else (none)) = some (r1, r2) := by first | (rw [hji23] at H; exact H) | (simp only [hji23] at H ⊢; exact H)
                      have hji23w : (IntKind.i64.wrap (x8_6 - (wrap64 (256 * x5_1)))) = ji23 := (i64_w _).trans hji23
                      by_cases c24 : 0 ≤ (ji23)
                      ·
                       rw [if_pos c24] at H
                       have c24b0 : decide (0 ≤ (ji23)) = true := decide_eq_true c24
                       clear c24
                       by_cases c25 : (ji23) < (x6_6.length : Int)
                       ·
                        rw [if_pos c25] at H
                        have c25b0 : decide ((ji23) < (x6_6.length : Int)) = true := decide_eq_true c25
                        clear c25
                        obtain ⟨y202, hy202⟩ : ∃ y_ : List Int, y_ = (x6_6.set ((ji23) : Int).toNat ((rd_T44 l0 x7_4).f2)) := ⟨_, rfl⟩
                        replace H : (sobriquetref05_Pack.l3 k6 l0 x4_2 x5_1 y202 x7_4 (wrap64 (x8_6 + 1)) x194000_1 x194001_1) = some (r1, r2) := by first | (rw [hy202]; with_reducible exact H) | (have H2_ := (Option.bind_some _ _).symm.trans H; rw [hy202]; with_reducible exact H2_) | (have H2_ := (Option.bind_some _ _).symm.trans H; with_reducible exact H2_) | with_reducible exact H | (rw [hy202]; exact H) | exact H
                        have Ny202 := Aside0.mk hy202
                        clear hy202
                        have H' := Aside0.mk H
                        clear H
                        have p200 : 0 ≤ (x7_4 : Int) := of_decide_eq_true (by first | (with_reducible assumption) | assumption)
                        have q200 : x7_4 < (l0.length : Int) := of_decide_eq_true (by first | (with_reducible assumption) | assumption)
                        obtain ⟨ad200, e200, hx200_0, hx200_1, hx200_2⟩ := at_T44 HR0.out x7_4 p200 q200
                        obtain rfl : ad199 = ad200 := (by injection e200)
                        replace hx200_0 := (HB.out.cell (World.block_lt_of_cell? w _ hx200_0)).trans hx200_0
                        replace hx200_1 := (HB.out.cell (World.block_lt_of_cell? w _ hx200_1)).trans hx200_1
                        replace hx200_2 := (HB.out.cell (World.block_lt_of_cell? w _ hx200_2)).trans hx200_2
                        replace p200 := eq_true p200
                        replace q200 := eq_true q200
                        have p201 : 0 ≤ (x7_4 : Int) := of_decide_eq_true (by first | (with_reducible assumption) | assumption)
                        have q201 : x7_4 < (l0.length : Int) := of_decide_eq_true (by first | (with_reducible assumption) | assumption)
                        obtain ⟨ad201, e201, hx201_0, hx201_1, hx201_2⟩ := at_T44 HR0.out x7_4 p201 q201
                        obtain rfl : ad199 = ad201 := (by injection e201)
                        replace hx201_0 := (HB.out.cell (World.block_lt_of_cell? w _ hx201_0)).trans hx201_0
                        replace hx201_1 := (HB.out.cell (World.block_lt_of_cell? w _ hx201_1)).trans hx201_1
                        replace hx201_2 := (HB.out.cell (World.block_lt_of_cell? w _ hx201_2)).trans hx201_2
                        replace p201 := eq_true p201
                        replace q201 := eq_true q201
                        have p26 : 0 ≤ ((ji23) : Int) := of_decide_eq_true (by first | (with_reducible assumption) | assumption)
                        have q26 : ((ji23) : Int) < ((x6_6.length : Int) : Int) := of_decide_eq_true (by first | (with_reducible assumption) | assumption)
                        obtain ⟨go26, co26, eo26, gb26, gl26, cl26, HG26⟩ := Kd.R_form HO_6.out (by omega)
                        (first | cases eo26 | (injection eo26 with ea_ en_ ec_; (first | subst ea_ | (injection ea_ with ea_; subst ea_)); subst ec_; clear en_))
                        have GB26 := Aside0.mk gb26
                        have GG26 := Aside0.mk HG26
                        clear gb26 gl26 HG26
                        obtain ⟨hx26_0, hf26_0⟩ := Kd.R_celln 0 HO_6.out ((ji23) : Int) p26 q26
                        replace p26 := eq_true p26
                        replace q26 := eq_true q26
                        have HP27 := Kd.R_putg HO_6.out ((ji23) : Int) ((rd_T44 l0 x7_4).f2)
                        go_wp2_with (first | ((with_reducible refine gate_store (t := 3) (p := 81) rfl ?_); refine store_event (t := 3) (p := 81) (v := ?vo_w28) (w1 := (wr.setCell ⟨go26, ((ji23) : Int).toNat, none⟩ (.int .i64 ((rd_T44 l0 x7_4).f2)))) ?hg ?ho ?hn ?hr ?_; (case ho => rfl); (case hg => rfl); (case hn => rfl); (case hr => first | (go_simp; done) | (go_simp; rfl)); intro w28 hw; have hg : wr.grownBy w28 (some go26) := (by rw [hw]; exact HP27.2); have hp_ : Kd.R (Kd.int .i64) 3 w28 w.heap.size (fun k_ => some k_ ≠ (u194000 : Value).ownBlock ∧ some k_ ≠ (u194001 : Value).ownBlock) (.slice (some ⟨go26, 0, none⟩) x6_6.length co26) y202 := (by rw [hw, Ny202.out]; exact HP27.1); clear HP27; have n0_ := Aside0.mk (hp_); have n1_ := Aside0.mk (Kd.R_after (v := (.slice (some ⟨go26, 0, none⟩) x6_6.length co26)) (v1 := (.slice (some ⟨go26, 0, none⟩) x6_6.length co26)) (ok := (fun k_ => some k_ ≠ (u194001 : Value).ownBlock)) (by (with_reducible repeat (first | apply Kd.R_alloc | apply Kd.R_drewN | apply Kd.R_drew)); exact Kd.R_mono HO_194000.out (fun _ hk => ⟨hk.2, hk.1⟩)) hg (.inl rfl)); have n2_ := Aside0.mk (Kd.R_after (v := (.slice (some ⟨go26, 0, none⟩) x6_6.length co26)) (v1 := (.slice (some ⟨go26, 0, none⟩) x6_6.length co26)) (ok := (fun k_ => some k_ ≠ (u194000 : Value).ownBlock)) (by (with_reducible repeat (first | apply Kd.R_alloc | apply Kd.R_drewN | apply Kd.R_drew)); exact Kd.R_mono HO_194001.out (fun _ hk => ⟨hk.2, hk.1⟩)) hg (.inl rfl)); have n3_ := Aside0.mk (blk_grown (g := gb192) (o := .cells #[.slice none 0 0, .slice none 0 0] 25 (0, 0)) (by (with_reducible repeat (first | refine blk_drewN ?_ _ | refine blk_drew ?_ | refine blk_alloc ?_ _)); exact BK192.out) hg (Kd.R_ne HO_6.out BK192.out (by decide))); have n4_ := Aside0.mk (blk_grown (g := gb193) (o := .cells #[u194000, u194001] 25 (0, 0)) (by (with_reducible repeat (first | refine blk_drewN ?_ _ | refine blk_drew ?_ | refine blk_alloc ?_ _)); exact BK193.out) hg (Kd.R_ne HO_6.out BK193.out (by decide))); have n5_ := Aside0.mk ((by rw [hw]; exact below_set (HB.out) GB26.out : Below w.heap.size w w28)); clear HO_6; clear HO_194000; clear HO_194001; clear BK192; clear BK193; clear HB; have HO_6 := n0_; have HO_194000 := n1_; have HO_194001 := n2_; have BK192 := n3_; have BK193 := n4_; have HB := n5_; clear n0_ n1_ n2_ n3_ n4_ n5_; clear hg hw hp_))
                        go_roundg k6
                        case measure => have := HK1.out; have := HK2.out; have := HJ7.out; have := HK4.out; have := HJ11.out; have := HK6.out; omega
                        case rel => exact ⟨(y202), (wrap64 (x8_6 + 1)), (by first | rfl | (simp; done) | (simp [*]; done)), H', ⟨by have := HK1.out; have := HK2.out; have := HJ7.out; have := HK4.out; have := HJ11.out; have := HK6.out; omega⟩, ⟨by (with_reducible repeat (first | apply Kd.R_alloc | apply Kd.R_drewN | apply Kd.R_drew)); exact HO_6.out⟩, ⟨by (with_reducible repeat (first | apply Kd.R_alloc | apply Kd.R_drewN | apply Kd.R_drew)); exact Kd.R_mono HO_194000.out (fun _ hk => ⟨hk.2, hk.1⟩)⟩, ⟨by (with_reducible repeat (first | apply Kd.R_alloc | apply Kd.R_drewN | apply Kd.R_drew)); exact Kd.R_mono HO_194001.out (fun _ hk => ⟨hk.2, hk.1⟩)⟩, ⟨by (with_reducible repeat (first | refine blk_drewN ?_ _ | refine blk_drew ?_ | refine blk_alloc ?_ _)); exact BK192.out⟩, ⟨by (with_reducible repeat (first | refine blk_drewN ?_ _ | refine blk_drew ?_ | refine blk_alloc ?_ _)); exact BK193.out⟩, ⟨by repeat (first | (with_reducible first | exact HB.out | apply below_alloc | apply pw_below_drewN | apply below_drew1 | refine below_set ?_ GE192.out | refine below_set ?_ GE193.out) | exact HB.out)⟩⟩
                       ·
                        rw [if_neg c25] at H
                        exact absurd H (by simp)
                      ·
                       rw [if_neg c24] at H
                       exact absurd H (by simp)
                     ·
                      rw [if_neg c22] at H
                      have c22b0 : decide (x8_6 ≤ (ji21)) = false := decide_eq_false c22
                      clear c22
                      have H' := Aside0.mk H
                      clear H
                      have p200 : 0 ≤ (x7_4 : Int) := of_decide_eq_true (by first | (with_reducible assumption) | assumption)
                      have q200 : x7_4 < (l0.length : Int) := of_decide_eq_true (by first | (with_reducible assumption) | assumption)
                      obtain ⟨ad200, e200, hx200_0, hx200_1, hx200_2⟩ := at_T44 HR0.out x7_4 p200 q200
                      obtain rfl : ad199 = ad200 := (by injection e200)
                      replace hx200_0 := (HB.out.cell (World.block_lt_of_cell? w _ hx200_0)).trans hx200_0
                      replace hx200_1 := (HB.out.cell (World.block_lt_of_cell? w _ hx200_1)).trans hx200_1
                      replace hx200_2 := (HB.out.cell (World.block_lt_of_cell? w _ hx200_2)).trans hx200_2
                      replace p200 := eq_true p200
                      replace q200 := eq_true q200
                      go_wp2
                      go_roundg k6
                      case measure => have := HK1.out; have := HK2.out; have := HJ7.out; have := HK4.out; have := HJ11.out; have := HK6.out; omega
                      case rel => exact ⟨(x6_6), (wrap64 (x7_4 + 1)), (by first | rfl | (simp; done) | (simp [*]; done)), H', ⟨by have := HK1.out; have := HK2.out; have := HJ7.out; have := HK4.out; have := HJ11.out; have := HK6.out; omega⟩, ⟨by (with_reducible repeat (first | apply Kd.R_alloc | apply Kd.R_drewN | apply Kd.R_drew)); exact HO_6.out⟩, ⟨by (with_reducible repeat (first | apply Kd.R_alloc | apply Kd.R_drewN | apply Kd.R_drew)); exact HO_194000.out⟩, ⟨by (with_reducible repeat (first | apply Kd.R_alloc | apply Kd.R_drewN | apply Kd.R_drew)); exact HO_194001.out⟩, ⟨by (with_reducible repeat (first | refine blk_drewN ?_ _ | refine blk_drew ?_ | refine blk_alloc ?_ _)); exact BK192.out⟩, ⟨by (with_reducible repeat (first | refine blk_drewN ?_ _ | refine blk_drew ?_ | refine blk_alloc ?_ _)); exact BK193.out⟩, ⟨by repeat (first | (with_reducible first | exact HB.out | apply below_alloc | apply pw_below_drewN | apply below_drew1 | refine below_set ?_ GE192.out | refine below_set ?_ GE193.out) | exact HB.out)⟩⟩
                    ·
                     rw [if_neg c20] at H
                     exact absurd H (by simp)
                   ·
                    rw [if_neg c19] at H
                    exact absurd H (by simp)
                ·
                 rw [if_neg c17] at H
                 exact absurd H (by simp)
               ·
                rw [if_neg c16] at H
                exact absurd H (by simp)
              ·
               replace c15 := Bool.eq_false_iff.mpr c15
               subst c15
               have H1 : (sobriquetref05_Pack.l4 kj11 l0 x4_2 x5_1 x6_4 (-1) 0 x194000_1 x194001_1) = some (r1, r2) := by rw [if_neg (show ¬ (false = true) by decide)] at H; exact H
               clear H
               have H := H1
               clear H1
               have H' := Aside0.mk H
               clear H
               go_wp2
               go_loopg [9, 10] kj11 (fun kq v9 v10 w' => ∃ (x9_6 : Int) (x10_6 : Int), v9 = .int .i64 x9_6 ∧ v10 = .int .i64 x10_6 ∧ Aside0 (sobriquetref05_Pack.l4 kq l0 x4_2 x5_1 x6_4 x9_6 x10_6 x194000_1 x194001_1 = some (r1, r2)) ∧ Aside0 (kq ≤ kj11) ∧ Aside0 (Kd.R (Kd.int .i64) 3 w' w.heap.size (fun k_ => some k_ ≠ (u194000 : Value).ownBlock ∧ some k_ ≠ (u194001 : Value).ownBlock) v195 x6_4) ∧ Aside0 (Kd.R (Kd.int .i64) 3 w' w.heap.size (fun k_ => some k_ ≠ (v195 : Value).ownBlock ∧ some k_ ≠ (u194001 : Value).ownBlock) u194000 x194000_1) ∧ Aside0 (Kd.R (Kd.int .i64) 3 w' w.heap.size (fun k_ => some k_ ≠ (v195 : Value).ownBlock ∧ some k_ ≠ (u194000 : Value).ownBlock) u194001 x194001_1) ∧ Aside0 (w'.heap[gb192]? = some (.cells #[(.slice none 0 0), (.slice none 0 0)] 25 (0, 0))) ∧ Aside0 (w'.heap[gb193]? = some (.cells #[u194000, u194001] 25 (0, 0))) ∧ Aside0 (Below w.heap.size w w'))
               case atStart => exact ⟨((-1)), (0), (by first | rfl | (simp; done) | (simp [*]; done)), (by first | rfl | (simp; done) | (simp [*]; done)), H', ⟨Nat.le_refl _⟩, ⟨by (with_reducible repeat (first | apply Kd.R_alloc | apply Kd.R_drewN | apply Kd.R_drew)); exact HO_6.out⟩, ⟨by (with_reducible repeat (first | apply Kd.R_alloc | apply Kd.R_drewN | apply Kd.R_drew)); exact HO_194000.out⟩, ⟨by (with_reducible repeat (first | apply Kd.R_alloc | apply Kd.R_drewN | apply Kd.R_drew)); exact HO_194001.out⟩, ⟨by (with_reducible repeat (first | refine blk_drewN ?_ _ | refine blk_drew ?_ | refine blk_alloc ?_ _)); exact BK192.out⟩, ⟨by (with_reducible repeat (first | refine blk_drewN ?_ _ | refine blk_drew ?_ | refine blk_alloc ?_ _)); exact BK193.out⟩, ⟨by repeat (first | (with_reducible first | exact HB.out | apply below_alloc | apply pw_below_drewN | apply below_drew1 | refine below_set ?_ GE192.out | refine below_set ?_ GE193.out) | exact HB.out)⟩⟩
               case round =>
                clear H'
                try clear c1
                try clear p1
                try clear q1
                try clear hx1
                try clear c2
                try clear p2
                try clear q2
                try clear hx2
                try clear hf2
                try clear c4
                try clear c4b0
                try clear c5
                try clear c5b0
                try clear c5b1
                try clear p6
                try clear c9
                try clear c9b0
                try clear c10
                try clear c10b0
                try clear c11
                try clear c13
                try clear c13b0
                try clear c14
                try clear c14b0
                try clear c15
                try clear c16
                try clear c16b0
                try clear c17
                try clear c17b0
                try clear c19
                try clear c19b0
                try clear p19
                try clear q19
                try clear hx19
                try clear c20
                try clear c20b0
                try clear p20
                try clear q20
                try clear hx20
                try clear c22
                try clear c22b0
                try clear c24
                try clear c24b0
                try clear c25
                try clear c25b0
                try clear p26
                try clear q26
                try clear hx26
                try clear hf26
                try clear hx197_0
                try clear hx197_1
                try clear hx197_2
                try clear hx198_0
                try clear hx198_1
                try clear hx198_2
                try clear hx199_0
                try clear hx199_1
                try clear hx199_2
                try clear hx200_0
                try clear hx200_1
                try clear hx200_2
                try clear hx201_0
                try clear hx201_1
                try clear hx201_2
                try clear hx26_0
                try clear p1
                try clear p197
                try clear p198
                try clear p199
                try clear p2
                try clear p200
                try clear p201
                try clear p26
                try clear p6
                try clear q1
                try clear q197
                try clear q198
                try clear q199
                try clear q200
                try clear q201
                try clear q26
                obtain ⟨x9_6, x10_6, rfl, rfl, HA, HK6, HO_6, HO_194000, HO_194001, BK192, BK193, HB⟩ := hrel
                cases gk with
                | zero => exact absurd HA.out (by simp [sobriquetref05_Pack.l4])
                | succ k6 =>
                 have H := HA.out
                 clear HA
                 simp only [sobriquetref05_Pack.l4] at H
                 have HC29 := Aside0.mk H
                 clear H
                 go_upto_region 18 with (fail)
                 go_cut [91] (fun v91 wc => ∃ (kq : Nat) (x91_28 : Bool), v91 = .bool x91_28 ∧ Aside0 (sobriquetref05_Pack.j7 kq l0 x4_2 x5_1 x6_4 x9_6 x10_6 x91_28 x194000_1 x194001_1 = some (r1, r2)) ∧ Aside0 (kq ≤ k6) ∧ Aside0 (Kd.R (Kd.int .i64) 3 wc w.heap.size (fun k_ => some k_ ≠ (u194000 : Value).ownBlock ∧ some k_ ≠ (u194001 : Value).ownBlock) v195 x6_4) ∧ Aside0 (Kd.R (Kd.int .i64) 3 wc w.heap.size (fun k_ => some k_ ≠ (v195 : Value).ownBlock ∧ some k_ ≠ (u194001 : Value).ownBlock) u194000 x194000_1) ∧ Aside0 (Kd.R (Kd.int .i64) 3 wc w.heap.size (fun k_ => some k_ ≠ (v195 : Value).ownBlock ∧ some k_ ≠ (u194000 : Value).ownBlock) u194001 x194001_1) ∧ Aside0 (wc.heap[gb192]? = some (.cells #[(.slice none 0 0), (.slice none 0 0)] 25 (0, 0))) ∧ Aside0 (wc.heap[gb193]? = some (.cells #[u194000, u194001] 25 (0, 0))) ∧ Aside0 (Below w.heap.size w wc))
                 case first =>
                  have H := HC29.out
                  clear HC29
                  by_cases c30 : x9_6 < 0
                  ·
                   rw [if_pos c30] at H
                   have c30b0 : decide (x9_6 < 0) = true := decide_eq_true c30
                   clear c30
                   (first | rw [c30b0] | (simp only [i64_w, i32_w]; rw [c30b0]) | skip)
                   have H' := Aside0.mk H
                   clear H
                   have hnb31 := NB193_192.out
                   have hnc31 := NB192_193.out
                   have hcz32_0 : wr.cell? ⟨gb193, 0, none⟩ = some (u194000) := (blk_cell BK193.out 0).trans rfl
                   have hcz32_1 : wr.cell? ⟨gb193, 1, none⟩ = some (u194001) := (blk_cell BK193.out 1).trans rfl
                   have hfz32_0 := blk_frozen BK193.out 0
                   have hfz32_1 := blk_frozen BK193.out 1
                   obtain ⟨Ao33, co33, eo33⟩ := Kd.R_slice HO_194001.out
                   subst eo33
                   go_wp2
                   go_meet
                   case rel => exact ⟨_, (decide ((wrap64 (256 * x10_6)) < (x194001_1.length : Int))), (by first | rfl | (simp; done) | (simp [*]; done)), H', ⟨by have := HK1.out; have := HK2.out; have := HJ7.out; have := HK4.out; have := HJ11.out; have := HK6.out; first | omega | exact Nat.le_refl _⟩, ⟨by (with_reducible repeat (first | apply Kd.R_alloc | apply Kd.R_drewN | apply Kd.R_drew)); exact HO_6.out⟩, ⟨by (with_reducible repeat (first | apply Kd.R_alloc | apply Kd.R_drewN | apply Kd.R_drew)); exact HO_194000.out⟩, ⟨by (with_reducible repeat (first | apply Kd.R_alloc | apply Kd.R_drewN | apply Kd.R_drew)); exact HO_194001.out⟩, ⟨by (with_reducible repeat (first | refine blk_drewN ?_ _ | refine blk_drew ?_ | refine blk_alloc ?_ _)); exact BK192.out⟩, ⟨by (with_reducible repeat (first | refine blk_drewN ?_ _ | refine blk_drew ?_ | refine blk_alloc ?_ _)); exact BK193.out⟩, ⟨by repeat (first | (with_reducible first | exact HB.out | apply below_alloc | apply pw_below_drewN | apply below_drew1 | refine below_set ?_ GE192.out | refine below_set ?_ GE193.out) | exact HB.out)⟩⟩
                  ·
                   rw [if_neg c30] at H
                   have c30b0 : decide (x9_6 < 0) = false := decide_eq_false c30
                   clear c30
                   (first | rw [c30b0] | (simp only [i64_w, i32_w]; rw [c30b0]) | skip)
                   have H' := Aside0.mk H
                   clear H
                   go_wp2
                   go_meet
                   case rel => exact ⟨_, (false), (by first | rfl | (simp; done) | (simp [*]; done)), H', ⟨by have := HK1.out; have := HK2.out; have := HJ7.out; have := HK4.out; have := HJ11.out; have := HK6.out; first | omega | exact Nat.le_refl _⟩, ⟨by (with_reducible repeat (first | apply Kd.R_alloc | apply Kd.R_drewN | apply Kd.R_drew)); exact HO_6.out⟩, ⟨by (with_reducible repeat (first | apply Kd.R_alloc | apply Kd.R_drewN | apply Kd.R_drew)); exact HO_194000.out⟩, ⟨by (with_reducible repeat (first | apply Kd.R_alloc | apply Kd.R_drewN | apply Kd.R_drew)); exact HO_194001.out⟩, ⟨by (with_reducible repeat (first | refine blk_drewN ?_ _ | refine blk_drew ?_ | refine blk_alloc ?_ _)); exact BK192.out⟩, ⟨by (with_reducible repeat (first | refine blk_drewN ?_ _ | refine blk_drew ?_ | refine blk_alloc ?_ _)); exact BK193.out⟩, ⟨by repeat (first | (with_reducible first | exact HB.out | apply below_alloc | apply pw_below_drewN | apply below_drew1 | refine below_set ?_ GE192.out | refine below_set ?_ GE193.out) | exact HB.out)⟩⟩
                 case rest =>
                  clear HC29
                  try clear c1
                  try clear p1
                  try clear q1
                  try clear hx1
                  try clear c2
                  try clear p2
                  try clear q2
                  try clear hx2
                  try clear hf2
                  try clear c3
                  try clear c4
                  try clear c4b0
                  try clear c5
                  try clear c5b0
                  try clear c5b1
                  try clear p6
                  try clear c9
                  try clear c9b0
                  try clear c10
                  try clear c10b0
                  try clear c11
                  try clear c13
                  try clear c13b0
                  try clear c14
                  try clear c14b0
                  try clear c15
                  try clear c16
                  try clear c16b0
                  try clear c17
                  try clear c17b0
                  try clear c19
                  try clear c19b0
                  try clear p19
                  try clear q19
                  try clear hx19
                  try clear c20
                  try clear c20b0
                  try clear p20
                  try clear q20
                  try clear hx20
                  try clear c22
                  try clear c22b0
                  try clear c24
                  try clear c24b0
                  try clear c25
                  try clear c25b0
                  try clear p26
                  try clear q26
                  try clear hx26
                  try clear hf26
                  try clear c30
                  try clear c30b0
                  try clear c31
                  try clear hcz32_0
                  try clear hcz32_1
                  try clear hfz32_0
                  try clear hfz32_1
                  try clear hx197_0
                  try clear hx197_1
                  try clear hx197_2
                  try clear hx198_0
                  try clear hx198_1
                  try clear hx198_2
                  try clear hx199_0
                  try clear hx199_1
                  try clear hx199_2
                  try clear hx200_0
                  try clear hx200_1
                  try clear hx200_2
                  try clear hx201_0
                  try clear hx201_1
                  try clear hx201_2
                  try clear hx26_0
                  try clear p1
                  try clear p19
                  try clear p197
                  try clear p198
                  try clear p199
                  try clear p2
                  try clear p20
                  try clear p200
                  try clear p201
                  try clear p26
                  try clear p6
                  try clear q1
                  try clear q19
                  try clear q197
                  try clear q198
                  try clear q199
                  try clear q2
                  try clear q20
                  try clear q200
                  try clear q201
                  try clear q26
                  obtain ⟨kq, x91_28, rfl, HA, HJ28, HO_6, HO_194000, HO_194001, BK192, BK193, HB⟩ := hcut
                  cases kq with
                  | zero => exact absurd HA.out (by simp [sobriquetref05_Pack.j7])
                  | succ kj28 =>
                   have H := HA.out
                   clear HA
                   simp only [sobriquetref05_Pack.j7] at H
                   by_cases c34 : x91_28 = true
                   ·
                    subst c34
                    have H1 : (if 0 ≤ (wrap64 (256 * x10_6)) then (if (wrap64 (256 * x10_6)) ≤ (wrap64 ((wrap64 (256 * x10_6)) + 256)) then (if (wrap64 ((wrap64 (256 * x10_6)) + 256)) ≤ (x194001_1.length : Int) then ((sobriquetkeep_Ints.f kj28 ((x194001_1.take ((wrap64 ((wrap64 (256 * x10_6)) + 256)) : Int).toNat).drop ((wrap64 (256 * x10_6)) : Int).toNat) x6_4).bind fun t207 => (if t207 = true then (sobriquetref05_Pack.l4 kj28 l0 x4_2 x5_1 x6_4 x10_6 (wrap64 (x10_6 + 1)) x194000_1 x194001_1) else (sobriquetref05_Pack.l4 kj28 l0 x4_2 x5_1 x6_4 x9_6 (wrap64 (x10_6 + 1)) x194000_1 x194001_1))) else (none)) else (none)) else (none)) = some (r1, r2) := by rw [if_pos rfl] at H; exact H
                    clear H
                    have H := H1
                    clear H1
                    obtain ⟨ji35, hji35⟩ : ∃ j_ : Int, (wrap64 (256 * x10_6)) = j_ := ⟨_, rfl⟩
                    replace H : (if 0 ≤ (ji35) then (if (ji35) ≤ (wrap64 ((ji35) + 256)) then (if (wrap64 ((ji35) + 256)) ≤ (x194001_1.length : Int) then ((sobriquetkeep_Ints.f kj28 ((x194001_1.take ((wrap64 ((ji35) + 256)) : Int).toNat).drop ((ji35) : Int).toNat) x6_4).bind fun t207 => (if t207 = true then (sobriquetref05_Pack.l4 kj28 l0 x4_2 x5_1 x6_4 x10_6 (wrap64 (x10_6 + 1)) x194000_1 x194001_1) else (sobriquetref05_Pack.l4 kj28 l0 x4_2 x5_1 x6_4 x9_6 (wrap64 (x10_6 + 1)) x194000_1 x194001_1))) else (none)) else (none)) else (none)) = some (r1, r2) := by first | (rw [hji35] at H; exact H) | (simp only [hji35] at H ⊢; exact H)
                    have hji35w : (IntKind.i64.wrap (256 * x10_6)) = ji35 := (i64_w _).trans hji35
                    by_cases c36 : 0 ≤ (ji35)
                    ·
                     rw [if_pos c36] at H
                     have c36b0 := eq_true c36
                     have c36b1 : decide (0 ≤ (ji35)) = true := decide_eq_true c36
                     clear c36
                     by_cases c37 : (ji35) ≤ (wrap64 ((ji35) + 256))
                     ·
                      rw [if_pos c37] at H
                      have c37b0 := eq_true c37
                      have c37b1 : decide ((ji35) ≤ (wrap64 ((ji35) + 256))) = true := decide_eq_true c37
                      by_cases c38 : (wrap64 ((ji35) + 256)) ≤ (x194001_1.length : Int)
                      ·
                       rw [if_pos c38] at H
                       have c38b0 := eq_true c38
                       have c38b1 : decide ((wrap64 ((ji35) + 256)) ≤ (x194001_1.length : Int)) = true := decide_eq_true c38
                       obtain ⟨y203, hy203⟩ : ∃ y_ : List Int, y_ = ((x194001_1.take ((wrap64 ((ji35) + 256)) : Int).toNat).drop ((ji35) : Int).toNat) := ⟨_, rfl⟩
                       replace H : ((sobriquetkeep_Ints.f kj28 y203 x6_4).bind fun t207 => (if t207 = true then (sobriquetref05_Pack.l4 kj28 l0 x4_2 x5_1 x6_4 x10_6 (wrap64 (x10_6 + 1)) x194000_1 x194001_1) else (sobriquetref05_Pack.l4 kj28 l0 x4_2 x5_1 x6_4 x9_6 (wrap64 (x10_6 + 1)) x194000_1 x194001_1))) = some (r1, r2) := by first | (rw [hy203]; with_reducible exact H) | (have H2_ := (Option.bind_some _ _).symm.trans H; rw [hy203]; with_reducible exact H2_) | (have H2_ := (Option.bind_some _ _).symm.trans H; with_reducible exact H2_) | with_reducible exact H | (rw [hy203]; exact H) | exact H
                       have Ny203 := Aside0.mk hy203
                       clear hy203
                       replace H := Option.bind_eq_some_iff.mp H
                       obtain ⟨t207, A390, H⟩ := H
                       replace H : (if t207 = true then (sobriquetref05_Pack.l4 kj28 l0 x4_2 x5_1 x6_4 x10_6 (wrap64 (x10_6 + 1)) x194000_1 x194001_1) else (sobriquetref05_Pack.l4 kj28 l0 x4_2 x5_1 x6_4 x9_6 (wrap64 (x10_6 + 1)) x194000_1 x194001_1)) = some (r1, r2) := H
                       have A39 := Aside0.mk A390
                       clear A390
                       by_cases c40 : t207 = true
                       ·
                        subst c40
                        have H1 : (sobriquetref05_Pack.l4 kj28 l0 x4_2 x5_1 x6_4 x10_6 (wrap64 (x10_6 + 1)) x194000_1 x194001_1) = some (r1, r2) := by rw [if_pos rfl] at H; exact H
                        clear H
                        have H := H1
                        clear H1
                        have H' := Aside0.mk H
                        clear H
                        have hnb41 := NB193_192.out
                        have hnc41 := NB192_193.out
                        have hcz42_0 : wc.cell? ⟨gb193, 0, none⟩ = some (u194000) := (blk_cell BK193.out 0).trans rfl
                        have hcz42_1 : wc.cell? ⟨gb193, 1, none⟩ = some (u194001) := (blk_cell BK193.out 1).trans rfl
                        have hfz42_0 := blk_frozen BK193.out 0
                        have hfz42_1 := blk_frozen BK193.out 1
                        obtain ⟨Ao44, co44, eo44⟩ := Kd.R_slice HO_194001.out
                        subst eo44
                        have q43 : ((wrap64 ((ji35) + 256)) : Int) ≤ ((x194001_1.length : Int) : Int) := of_decide_eq_true (by first | (with_reducible assumption) | assumption)
                        obtain ⟨i043, hi043, _, hsz43, _⟩ := info_parts info3
                        have hroom43 : x194001_1.length ≤ co44 := (Kd.R_reads' HO_194001.out).2.1
                        have hC43 : Kd.C (Kd.int .i64) _ Ao44 x194001_1.length x194001_1 := (Kd.R_reads' HO_194001.out).2.2
                        have ql43 : ((ji35) : Int) ≤ ((wrap64 ((ji35) + 256)) : Int) := of_decide_eq_true (by first | (with_reducible assumption) | assumption)
                        have q043 : (0 : Int) ≤ ((ji35) : Int) := of_decide_eq_true (by first | (with_reducible assumption) | assumption)
                        have hcut43 := cut_mid (P := Try.prog) 23 3 .i64 .i64 Try.underlying23 hi043 1 hsz43 Ao44 x194001_1.length co44 (ji35) (wrap64 ((ji35) + 256)) q043 ql43 q43 hroom43
                        have hr43 := Kd.C_mid (lo := ((ji35) : Int).toNat) (hi := ((wrap64 ((ji35) + 256)) : Int).toNat) (c := co44) hC43 (by omega) (by omega) hroom43
                        obtain ⟨A43, hA43⟩ : ∃ A1, A1 = (if co44 = ((ji35) : Int).toNat then Ao44 else (Ao44 : Option Addr).map (·.add (((ji35) : Int).toNat * 1))) := ⟨_, rfl⟩
                        obtain ⟨c43, hc43⟩ : ∃ c1, c1 = co44 - ((ji35) : Int).toNat := ⟨_, rfl⟩
                        have hy43 : y203.length = ((wrap64 ((ji35) + 256)) : Int).toNat - ((ji35) : Int).toNat := (by rw [Ny203.out, List.length_drop, List.length_take] <;> omega)
                        rw [show ((x194001_1).take ((wrap64 ((ji35) + 256)) : Int).toNat).drop ((ji35) : Int).toNat = y203 from Ny203.out.symm] at hr43
                        replace hr43 : Kd.C (Kd.int .i64) _ A43 y203.length y203 := (by rw [hA43]; exact hr43)
                        rw [← hy43, ← hA43, ← hc43] at hcut43
                        have HR206 := Aside0.mk hr43
                        have HC206 := Aside0.mk (show y203.length ≤ c43 from by rw [hy43, hc43]; exact Nat.sub_le_sub_right (Nat.le_trans (by omega) hroom43) _)
                        clear hr43 hC43 hroom43 hi043 hsz43 hc43
                        have KY43 := Aside0.mk hy43
                        have KA43 := Aside0.mk hA43
                        clear hy43 hA43
                        have KL43 := Aside0.mk (show ((wrap64 ((ji35) + 256)) : Int).toNat ≤ x194001_1.length from by omega)
                        have KM43 := Aside0.mk (show ((ji35) : Int).toNat ≤ ((wrap64 ((ji35) + 256)) : Int).toNat from by omega)
                        replace q43 := eq_true q43
                        obtain ⟨Ao45, co45, eo45⟩ := Kd.R_slice HO_6.out
                        subst eo45
                        go_wp2_with (first | ((with_reducible refine gate_callee (f := 9) rfl ?_); refine goesL_ (some 103) rfl rfl Try.func9 (by kernel_rfl) rfl #[.slice A43 y203.length c43, .slice Ao45 x6_4.length co45] rfl (by (try simp only [List.map_toArray, List.map_cons, List.map_nil]); first | done | rfl | (simp only [List.length_drop, List.length_take]; rfl)) ?_; (with_reducible refine (sobriquetkeep_Ints.calls kj28 _ _ y203 _ _ x6_4 true _ ?side1 ?side2 ?side3 ?side4 A39.out).mono ?_); (case side1 => repeat (first | exact (by repeat (first | (with_reducible exact HR206.out) | (with_reducible refine Kd.C_alloc ?_ _) | (with_reducible refine Kd.C_drewN ?_ _) | (with_reducible refine Kd.C_drew ?_) | exact HR206.out)) | (with_reducible refine Kd.C_alloc ?_ _) | (with_reducible refine Kd.C_drewN ?_ _) | (with_reducible refine Kd.C_drew ?_))); (case side2 => exact HC206.out); (case side3 => repeat (first | exact (Kd.R_reads' HO_6.out).2.2 | (with_reducible refine Kd.C_alloc ?_ _) | (with_reducible refine Kd.C_drewN ?_ _) | (with_reducible refine Kd.C_drew ?_))); (case side4 => exact (Kd.R_reads' HO_6.out).2.1); rintro e w' ⟨rfl, ⟨nd, rfl⟩⟩; refine ⟨_, rfl, ?_⟩))
                        go_roundg kj28
                        case measure => have := HK1.out; have := HK2.out; have := HJ7.out; have := HK4.out; have := HJ11.out; have := HK6.out; have := HJ28.out; omega
                        case rel => exact ⟨(x10_6), (wrap64 (x10_6 + 1)), (by first | rfl | (simp; done) | (simp [*]; done)), (by first | rfl | (simp; done) | (simp [*]; done)), H', ⟨by have := HK1.out; have := HK2.out; have := HJ7.out; have := HK4.out; have := HJ11.out; have := HK6.out; have := HJ28.out; omega⟩, ⟨by (with_reducible repeat (first | apply Kd.R_alloc | apply Kd.R_drewN | apply Kd.R_drew)); exact HO_6.out⟩, ⟨by (with_reducible repeat (first | apply Kd.R_alloc | apply Kd.R_drewN | apply Kd.R_drew)); exact HO_194000.out⟩, ⟨by (with_reducible repeat (first | apply Kd.R_alloc | apply Kd.R_drewN | apply Kd.R_drew)); exact HO_194001.out⟩, ⟨by (with_reducible repeat (first | refine blk_drewN ?_ _ | refine blk_drew ?_ | refine blk_alloc ?_ _)); exact BK192.out⟩, ⟨by (with_reducible repeat (first | refine blk_drewN ?_ _ | refine blk_drew ?_ | refine blk_alloc ?_ _)); exact BK193.out⟩, ⟨by repeat (first | (with_reducible first | exact HB.out | apply below_alloc | apply pw_below_drewN | apply below_drew1 | refine below_set ?_ GE192.out | refine below_set ?_ GE193.out) | exact HB.out)⟩⟩
                       ·
                        replace c40 := Bool.eq_false_iff.mpr c40
                        subst c40
                        have H1 : (sobriquetref05_Pack.l4 kj28 l0 x4_2 x5_1 x6_4 x9_6 (wrap64 (x10_6 + 1)) x194000_1 x194001_1) = some (r1, r2) := by rw [if_neg (show ¬ (false = true) by decide)] at H; exact H
                        clear H
                        have H := H1
                        clear H1
                        have H' := Aside0.mk H
                        clear H
                        have hnb46 := NB193_192.out
                        have hnc46 := NB192_193.out
                        have hcz47_0 : wc.cell? ⟨gb193, 0, none⟩ = some (u194000) := (blk_cell BK193.out 0).trans rfl
                        have hcz47_1 : wc.cell? ⟨gb193, 1, none⟩ = some (u194001) := (blk_cell BK193.out 1).trans rfl
                        have hfz47_0 := blk_frozen BK193.out 0
                        have hfz47_1 := blk_frozen BK193.out 1
                        obtain ⟨Ao49, co49, eo49⟩ := Kd.R_slice HO_194001.out
                        subst eo49
                        have q48 : ((wrap64 ((ji35) + 256)) : Int) ≤ ((x194001_1.length : Int) : Int) := of_decide_eq_true (by first | (with_reducible assumption) | assumption)
                        obtain ⟨i048, hi048, _, hsz48, _⟩ := info_parts info3
                        have hroom48 : x194001_1.length ≤ co49 := (Kd.R_reads' HO_194001.out).2.1
                        have hC48 : Kd.C (Kd.int .i64) _ Ao49 x194001_1.length x194001_1 := (Kd.R_reads' HO_194001.out).2.2
                        have ql48 : ((ji35) : Int) ≤ ((wrap64 ((ji35) + 256)) : Int) := of_decide_eq_true (by first | (with_reducible assumption) | assumption)
                        have q048 : (0 : Int) ≤ ((ji35) : Int) := of_decide_eq_true (by first | (with_reducible assumption) | assumption)
                        have hcut48 := cut_mid (P := Try.prog) 23 3 .i64 .i64 Try.underlying23 hi048 1 hsz48 Ao49 x194001_1.length co49 (ji35) (wrap64 ((ji35) + 256)) q048 ql48 q48 hroom48
                        have hr48 := Kd.C_mid (lo := ((ji35) : Int).toNat) (hi := ((wrap64 ((ji35) + 256)) : Int).toNat) (c := co49) hC48 (by omega) (by omega) hroom48
                        obtain ⟨A48, hA48⟩ : ∃ A1, A1 = (if co49 = ((ji35) : Int).toNat then Ao49 else (Ao49 : Option Addr).map (·.add (((ji35) : Int).toNat * 1))) := ⟨_, rfl⟩
                        obtain ⟨c48, hc48⟩ : ∃ c1, c1 = co49 - ((ji35) : Int).toNat := ⟨_, rfl⟩
                        have hy48 : y203.length = ((wrap64 ((ji35) + 256)) : Int).toNat - ((ji35) : Int).toNat := (by rw [Ny203.out, List.length_drop, List.length_take] <;> omega)
                        rw [show ((x194001_1).take ((wrap64 ((ji35) + 256)) : Int).toNat).drop ((ji35) : Int).toNat = y203 from Ny203.out.symm] at hr48
                        replace hr48 : Kd.C (Kd.int .i64) _ A48 y203.length y203 := (by rw [hA48]; exact hr48)
                        rw [← hy48, ← hA48, ← hc48] at hcut48
                        have HR206 := Aside0.mk hr48
                        have HC206 := Aside0.mk (show y203.length ≤ c48 from by rw [hy48, hc48]; exact Nat.sub_le_sub_right (Nat.le_trans (by omega) hroom48) _)
                        clear hr48 hC48 hroom48 hi048 hsz48 hc48
                        have KY48 := Aside0.mk hy48
                        have KA48 := Aside0.mk hA48
                        clear hy48 hA48
                        have KL48 := Aside0.mk (show ((wrap64 ((ji35) + 256)) : Int).toNat ≤ x194001_1.length from by omega)
                        have KM48 := Aside0.mk (show ((ji35) : Int).toNat ≤ ((wrap64 ((ji35) + 256)) : Int).toNat from by omega)
                        replace q48 := eq_true q48
                        obtain ⟨Ao50, co50, eo50⟩ := Kd.R_slice HO_6.out
                        subst eo50
                        go_wp2_with (first | ((with_reducible refine gate_callee (f := 9) rfl ?_); refine goesL_ (some 103) rfl rfl Try.func9 (by kernel_rfl) rfl #[.slice A48 y203.length c48, .slice Ao50 x6_4.length co50] rfl (by (try simp only [List.map_toArray, List.map_cons, List.map_nil]); first | done | rfl | (simp only [List.length_drop, List.length_take]; rfl)) ?_; (with_reducible refine (sobriquetkeep_Ints.calls kj28 _ _ y203 _ _ x6_4 false _ ?side1 ?side2 ?side3 ?side4 A39.out).mono ?_); (case side1 => repeat (first | exact (by repeat (first | (with_reducible exact HR206.out) | (with_reducible refine Kd.C_alloc ?_ _) | (with_reducible refine Kd.C_drewN ?_ _) | (with_reducible refine Kd.C_drew ?_) | exact HR206.out)) | (with_reducible refine Kd.C_alloc ?_ _) | (with_reducible refine Kd.C_drewN ?_ _) | (with_reducible refine Kd.C_drew ?_))); (case side2 => exact HC206.out); (case side3 => repeat (first | exact (Kd.R_reads' HO_6.out).2.2 | (with_reducible refine Kd.C_alloc ?_ _) | (with_reducible refine Kd.C_drewN ?_ _) | (with_reducible refine Kd.C_drew ?_))); (case side4 => exact (Kd.R_reads' HO_6.out).2.1); rintro e w' ⟨rfl, ⟨nd, rfl⟩⟩; refine ⟨_, rfl, ?_⟩))
                        go_roundg kj28
                        case measure => have := HK1.out; have := HK2.out; have := HJ7.out; have := HK4.out; have := HJ11.out; have := HK6.out; have := HJ28.out; omega
                        case rel => exact ⟨(x9_6), (wrap64 (x10_6 + 1)), (by first | rfl | (simp; done) | (simp [*]; done)), (by first | rfl | (simp; done) | (simp [*]; done)), H', ⟨by have := HK1.out; have := HK2.out; have := HJ7.out; have := HK4.out; have := HJ11.out; have := HK6.out; have := HJ28.out; omega⟩, ⟨by (with_reducible repeat (first | apply Kd.R_alloc | apply Kd.R_drewN | apply Kd.R_drew)); exact HO_6.out⟩, ⟨by (with_reducible repeat (first | apply Kd.R_alloc | apply Kd.R_drewN | apply Kd.R_drew)); exact HO_194000.out⟩, ⟨by (with_reducible repeat (first | apply Kd.R_alloc | apply Kd.R_drewN | apply Kd.R_drew)); exact HO_194001.out⟩, ⟨by (with_reducible repeat (first | refine blk_drewN ?_ _ | refine blk_drew ?_ | refine blk_alloc ?_ _)); exact BK192.out⟩, ⟨by (with_reducible repeat (first | refine blk_drewN ?_ _ | refine blk_drew ?_ | refine blk_alloc ?_ _)); exact BK193.out⟩, ⟨by repeat (first | (with_reducible first | exact HB.out | apply below_alloc | apply pw_below_drewN | apply below_drew1 | refine below_set ?_ GE192.out | refine below_set ?_ GE193.out) | exact HB.out)⟩⟩
                      ·
                       rw [if_neg c38] at H
                       exact absurd H (by simp)
                     ·
                      rw [if_neg c37] at H
                      exact absurd H (by simp)
                    ·
                     rw [if_neg c36] at H
                     exact absurd H (by simp)
                   ·
                    replace c34 := Bool.eq_false_iff.mpr c34
                    subst c34
                    have H1 : (if x9_6 < 0 then (if x194001_1.length + x6_4.length < 17592186044416 then (if x194000_1.length < 17592186044416 then (sobriquetref05_Pack.l0 kj28 l0 x4_2 (wrap64 (x5_1 + 1)) (x194000_1 ++ [wrap64 ((x194001_1.length : Int) / 256)]) (x194001_1 ++ x6_4)) else (none)) else (none)) else (if x194000_1.length < 17592186044416 then (sobriquetref05_Pack.l0 kj28 l0 x4_2 (wrap64 (x5_1 + 1)) (x194000_1 ++ [x9_6]) x194001_1) else (none))) = some (r1, r2) := by rw [if_neg (show ¬ (false = true) by decide)] at H; exact H
                    clear H
                    have H := H1
                    clear H1
                    by_cases c51 : x9_6 < 0
                    ·
                     rw [if_pos c51] at H
                     have c51b0 : decide (x9_6 < 0) = true := decide_eq_true c51
                     clear c51
                     by_cases c52 : x194001_1.length + x6_4.length < 17592186044416
                     ·
                      rw [if_pos c52] at H
                      have LMc52 := Aside0.mk c52
                      clear c52
                      obtain ⟨y208, hy208⟩ : ∃ y_ : List Int, y_ = (x194001_1 ++ x6_4) := ⟨_, rfl⟩
                      replace H : (if x194000_1.length < 17592186044416 then (sobriquetref05_Pack.l0 kj28 l0 x4_2 (wrap64 (x5_1 + 1)) (x194000_1 ++ [wrap64 ((x194001_1.length : Int) / 256)]) y208) else (none)) = some (r1, r2) := by first | (rw [hy208]; with_reducible exact H) | (have H2_ := (Option.bind_some _ _).symm.trans H; rw [hy208]; with_reducible exact H2_) | (have H2_ := (Option.bind_some _ _).symm.trans H; with_reducible exact H2_) | with_reducible exact H | (rw [hy208]; exact H) | exact H
                      have Ny208 := Aside0.mk hy208
                      clear hy208
                      by_cases c53 : x194000_1.length < 17592186044416
                      ·
                       rw [if_pos c53] at H
                       have LMc53 := Aside0.mk c53
                       clear c53
                       obtain ⟨y211, hy211⟩ : ∃ y_ : List Int, y_ = (x194000_1 ++ [wrap64 ((x194001_1.length : Int) / 256)]) := ⟨_, rfl⟩
                       replace H : (sobriquetref05_Pack.l0 kj28 l0 x4_2 (wrap64 (x5_1 + 1)) y211 y208) = some (r1, r2) := by first | (rw [hy211]; with_reducible exact H) | (have H2_ := (Option.bind_some _ _).symm.trans H; rw [hy211]; with_reducible exact H2_) | (have H2_ := (Option.bind_some _ _).symm.trans H; with_reducible exact H2_) | with_reducible exact H | (rw [hy211]; exact H) | exact H
                       have Ny211 := Aside0.mk hy211
                       clear hy211
                       have H' := Aside0.mk H
                       clear H
                       have hnb54 := NB193_192.out
                       have hnc54 := NB192_193.out
                       have hcz55_0 : wc.cell? ⟨gb193, 0, none⟩ = some (u194000) := (blk_cell BK193.out 0).trans rfl
                       have hcz55_1 : wc.cell? ⟨gb193, 1, none⟩ = some (u194001) := (blk_cell BK193.out 1).trans rfl
                       have hfz55_0 := blk_frozen BK193.out 0
                       have hfz55_1 := blk_frozen BK193.out 1
                       obtain ⟨Ao56, co56, eo56⟩ := Kd.R_slice HO_194001.out
                       subst eo56
                       obtain ⟨Ao58, co58, eo58⟩ := Kd.R_slice HO_6.out
                       subst eo58
                       go_wp2_with (first | ((with_reducible refine gate_builtin (b := .append) (xs := #[.tmp 112, .tmp 113]) rfl ?_); (try (refine gate_guard (by rfl) ?_; dsimp only)); at_builtin; refine Kd.R_append_rows (Kd.int .i64) (w0 := w) w.heap.size rfl (.tmp 112) (.tmp 113) 23 3 (.int .i64 0) 8 rfl Try.underlying23 info3 rfl (by decide) (by omega) (.slice Ao56 x194001_1.length co56) x194001_1 x6_4 _ _ _ (fun k_ => some k_ ≠ (.slice Ao58 x6_4.length co58 : Value).ownBlock ∧ some k_ ≠ (u194000 : Value).ownBlock) (fun _ => False) rfl rfl ?aO ?aR (fun _ _ h => h) (fun _ h => h.elim) ?aF ?aB ?aS ?aL ?_; (case aR => repeat (first | exact (Kd.R_reads' HO_6.out).2.2 | (with_reducible refine Kd.C_alloc ?_ _) | (with_reducible refine Kd.C_drewN ?_ _) | (with_reducible refine Kd.C_drew ?_))); (case aB => exact (by repeat (first | (with_reducible first | exact HB.out | apply below_alloc | apply pw_below_drewN | apply below_drew1 | refine below_set ?_ GE192.out | refine below_set ?_ GE193.out) | exact HB.out))); (case aF => exact (fun k_ hk => ⟨Kd.fresh' (Kd.R_lt (by (with_reducible repeat (first | apply Kd.R_alloc | apply Kd.R_drewN | apply Kd.R_drew)); exact HO_6.out)) k_ hk, Kd.fresh' (Kd.R_lt (by (with_reducible repeat (first | apply Kd.R_alloc | apply Kd.R_drewN | apply Kd.R_drew)); exact HO_194000.out)) k_ hk⟩)); (case aO => exact (by (with_reducible repeat (first | apply Kd.R_alloc | apply Kd.R_drewN | apply Kd.R_drew)); exact HO_194001.out)); (case aS => exact (below_size (by repeat (first | (with_reducible first | exact HB.out | apply below_alloc | apply pw_below_drewN | apply below_drew1 | refine below_set ?_ GE192.out | refine below_set ?_ GE193.out) | exact HB.out)))); (case aL => have := LMc52.out; omega); intro v209 w57 ho hb hg hat; rw [← Ny208.out] at ho; have n0_ := Aside0.mk (Kd.R_after (ok := (fun k_ => some k_ ≠ (u194000 : Value).ownBlock)) (by (with_reducible repeat (first | apply Kd.R_alloc | apply Kd.R_drewN | apply Kd.R_drew)); exact HO_6.out) hg hat); have n1_ := Aside0.mk (Kd.R_after (ok := (fun k_ => some k_ ≠ (.slice Ao58 x6_4.length co58 : Value).ownBlock)) (by (with_reducible repeat (first | apply Kd.R_alloc | apply Kd.R_drewN | apply Kd.R_drew)); exact HO_194000.out) hg hat); have n2_ := Aside0.mk (blk_grown (g := gb192) (o := .cells #[.slice none 0 0, .slice none 0 0] 25 (0, 0)) (by (with_reducible repeat (first | refine blk_drewN ?_ _ | refine blk_drew ?_ | refine blk_alloc ?_ _)); exact BK192.out) hg (Kd.R_ne HO_194001.out BK192.out (by decide))); have n3_ := Aside0.mk (blk_grown (g := gb193) (o := .cells #[u194000, .slice Ao56 x194001_1.length co56] 25 (0, 0)) (by (with_reducible repeat (first | refine blk_drewN ?_ _ | refine blk_drew ?_ | refine blk_alloc ?_ _)); exact BK193.out) hg (Kd.R_ne HO_194001.out BK193.out (by decide))); have n4_ := Aside0.mk (hb); have n5_ := Aside0.mk (ho); clear HO_6; clear HO_194000; clear BK192; clear BK193; clear HB; clear HO_194001; have HO_6 := n0_; have HO_194000 := n1_; have BK192 := n2_; have BK193 := n3_; have HB := n4_; have HO210 := n5_; clear n0_ n1_ n2_ n3_ n4_ n5_; clear ho hb hg hat; obtain ⟨Ao59, co59, eo59⟩ := Kd.R_slice HO210.out; subst eo59; have hcz60_0 : w57.cell? ⟨gb193, 0, none⟩ = some (u194000) := (blk_cell BK193.out 0).trans rfl; have hcz60_1 : w57.cell? ⟨gb193, 1, none⟩ = some (.slice Ao56 x194001_1.length co56) := (blk_cell BK193.out 1).trans rfl; have hfz60_0 := blk_frozen BK193.out 0; have hfz60_1 := blk_frozen BK193.out 1) | ((with_reducible refine gate_builtin (b := .append) (xs := #[.tmp 117, .tmp 119]) rfl ?_); (try (refine gate_guard (by rfl) ?_; dsimp only)); at_builtin; refine Kd.R_append (Kd.int .i64) (w0 := w) w.heap.size rfl (.tmp 117) (.tmp 119) 23 3 (.int .i64 0) 8 rfl Try.underlying23 info3 rfl (by decide) (by omega) u194000 x194000_1 (wrap64 ((x194001_1.length : Int) / 256)) [.int .i64 (wrap64 ((x194001_1.length : Int) / 256))] (fun k_ => some k_ ≠ (.slice Ao58 x6_4.length co58 : Value).ownBlock ∧ some k_ ≠ (.slice Ao59 y208.length co59 : Value).ownBlock) (fun _ => False) rfl (by first | (go_simp; done) | (go_simp; rfl)) ?aP (fun _ hk => hk.elim) ?aF ?aO ?aB ?aS ?aL ?_; (case aP => exact rfl); (case aB => exact (by repeat (first | (with_reducible first | exact HB.out | apply below_alloc | apply pw_below_drewN | apply below_drew1 | refine below_set ?_ GE192.out | refine below_set ?_ GE193.out) | exact HB.out))); (case aF => exact (fun k_ hk => ⟨Kd.fresh' (Kd.R_lt (by (with_reducible repeat (first | apply Kd.R_alloc | apply Kd.R_drewN | apply Kd.R_drew)); exact (Kd.R_mono (Kd.R_far (p := ⟨gb193, 1, none⟩) (Kd.R_types HO_6.out BK193.out (by decide)) (fun _ hk => hk.2) (.slice Ao59 y208.length co59)) (fun _ h_ => h_.1)))) k_ hk, Kd.fresh' (Kd.R_lt (by (with_reducible repeat (first | apply Kd.R_alloc | apply Kd.R_drewN | apply Kd.R_drew)); exact (Kd.R_mono (Kd.R_far (p := ⟨gb193, 1, none⟩) (Kd.R_types HO210.out BK193.out (by decide)) (fun _ hk => hk.2) (.slice Ao59 y208.length co59)) (fun _ h_ => h_.1)))) k_ hk⟩)); (case aO => exact (by (with_reducible repeat (first | apply Kd.R_alloc | apply Kd.R_drewN | apply Kd.R_drew)); exact Kd.R_mono (Kd.R_far (p := ⟨gb193, 1, none⟩) (Kd.R_types HO_194000.out BK193.out (by decide)) (fun _ hk => hk.2) (.slice Ao59 y208.length co59)) (fun _ hk => ⟨hk.1.1, hk.1.2⟩))); (case aS => exact (below_size (by repeat (first | (with_reducible first | exact HB.out | apply below_alloc | apply pw_below_drewN | apply below_drew1 | refine below_set ?_ GE192.out | refine below_set ?_ GE193.out) | exact HB.out)))); (case aL => have := LMc53.out; omega); intro v212 w61 ho hb hg hat; rw [← Ny211.out] at ho; have n0_ := Aside0.mk (Kd.R_after (ok := (fun k_ => some k_ ≠ (.slice Ao59 y208.length co59 : Value).ownBlock)) (by (with_reducible repeat (first | apply Kd.R_alloc | apply Kd.R_drewN | apply Kd.R_drew)); exact Kd.R_mono (Kd.R_far (p := ⟨gb193, 1, none⟩) (Kd.R_types HO_6.out BK193.out (by decide)) (fun _ hk => hk.2) (.slice Ao59 y208.length co59)) (fun _ hk => ⟨hk.1.2, hk.1.1⟩)) hg hat); have n1_ := Aside0.mk (blk_grown (g := gb192) (o := .cells #[.slice none 0 0, .slice none 0 0] 25 (0, 0)) (by (with_reducible repeat (first | refine blk_drewN ?_ _ | refine blk_drew ?_ | refine blk_alloc ?_ _)); refine blk_far ?_ NB192_193.out _; (with_reducible repeat (first | refine blk_drewN ?_ _ | refine blk_drew ?_ | refine blk_alloc ?_ _)); exact BK192.out) hg (Kd.R_ne HO_194000.out BK192.out (by decide))); have n2_ := Aside0.mk (blk_grown (g := gb193) (o := .cells #[u194000, .slice Ao59 y208.length co59] 25 (0, 0)) (by (with_reducible repeat (first | refine blk_drewN ?_ _ | refine blk_drew ?_ | refine blk_alloc ?_ _)); refine blk_put (cs := #[u194000, .slice Ao56 x194001_1.length co56]) ?_ 1 _ rfl; (with_reducible repeat (first | refine blk_drewN ?_ _ | refine blk_drew ?_ | refine blk_alloc ?_ _)); exact BK193.out) hg (Kd.R_ne HO_194000.out BK193.out (by decide))); have n3_ := Aside0.mk (Kd.R_after (ok := (fun k_ => some k_ ≠ (.slice Ao58 x6_4.length co58 : Value).ownBlock)) (by (with_reducible repeat (first | apply Kd.R_alloc | apply Kd.R_drewN | apply Kd.R_drew)); exact Kd.R_mono (Kd.R_far (p := ⟨gb193, 1, none⟩) (Kd.R_types HO210.out BK193.out (by decide)) (fun _ hk => hk.2) (.slice Ao59 y208.length co59)) (fun _ hk => ⟨hk.1.1, hk.1.2⟩)) hg hat); have n4_ := Aside0.mk (hb); have n5_ := Aside0.mk (ho); clear HO_6; clear BK192; clear BK193; clear HO210; clear HB; clear HO_194000; have HO_6 := n0_; have BK192 := n1_; have BK193 := n2_; have HO210 := n3_; have HB := n4_; have HO213 := n5_; clear n0_ n1_ n2_ n3_ n4_ n5_; clear ho hb hg hat; obtain ⟨Ao62, co62, eo62⟩ := Kd.R_slice HO213.out; subst eo62; have hcz63_0 : w61.cell? ⟨gb193, 0, none⟩ = some (u194000) := (blk_cell BK193.out 0).trans rfl; have hcz63_1 : w61.cell? ⟨gb193, 1, none⟩ = some (.slice Ao59 y208.length co59) := (blk_cell BK193.out 1).trans rfl; have hfz63_0 := blk_frozen BK193.out 0; have hfz63_1 := blk_frozen BK193.out 1))
                       go_roundg kj28
                       case measure => have := HK1.out; have := HK2.out; have := HJ7.out; have := HK4.out; have := HJ11.out; have := HK6.out; have := HJ28.out; omega
                       case rel => exact ⟨(x4_2), (wrap64 (x5_1 + 1)), (y211), (y208), (.slice Ao62 y211.length co62), (.slice Ao59 y208.length co59), (by first | rfl | (simp; done) | (simp [*]; done)), (by first | rfl | (simp; done) | (simp [*]; done)), H', ⟨by have := HK1.out; have := HK2.out; have := HJ7.out; have := HK4.out; have := HJ11.out; have := HK6.out; have := HJ28.out; omega⟩, ⟨by (with_reducible repeat (first | apply Kd.R_alloc | apply Kd.R_drewN | apply Kd.R_drew)); exact Kd.R_mono (Kd.R_far (p := ⟨gb193, 0, none⟩) (Kd.R_types HO213.out BK193.out (by decide)) (fun _ hk => hk.2) (.slice Ao62 y211.length co62)) (fun _ hk => hk.1.2)⟩, ⟨by (with_reducible repeat (first | apply Kd.R_alloc | apply Kd.R_drewN | apply Kd.R_drew)); exact Kd.R_mono (Kd.R_far (p := ⟨gb193, 0, none⟩) (Kd.R_types HO210.out BK193.out (by decide)) (fun _ hk => hk.2) (.slice Ao62 y211.length co62)) (fun _ hk => hk.1.2)⟩, ⟨by (with_reducible repeat (first | refine blk_drewN ?_ _ | refine blk_drew ?_ | refine blk_alloc ?_ _)); refine blk_far ?_ NB192_193.out _; (with_reducible repeat (first | refine blk_drewN ?_ _ | refine blk_drew ?_ | refine blk_alloc ?_ _)); exact BK192.out⟩, ⟨by (with_reducible repeat (first | refine blk_drewN ?_ _ | refine blk_drew ?_ | refine blk_alloc ?_ _)); refine blk_put (cs := #[u194000, .slice Ao59 y208.length co59]) ?_ 0 _ rfl; (with_reducible repeat (first | refine blk_drewN ?_ _ | refine blk_drew ?_ | refine blk_alloc ?_ _)); exact BK193.out⟩, ⟨by repeat (first | (with_reducible first | exact HB.out | apply below_alloc | apply pw_below_drewN | apply below_drew1 | refine below_set ?_ GE192.out | refine below_set ?_ GE193.out) | exact HB.out)⟩⟩
                      ·
                       rw [if_neg c53] at H
                       exact absurd H (by simp)
                     ·
                      rw [if_neg c52] at H
                      exact absurd H (by simp)
                    ·
                     rw [if_neg c51] at H
                     have c51b0 : decide (x9_6 < 0) = false := decide_eq_false c51
                     clear c51
                     by_cases c64 : x194000_1.length < 17592186044416
                     ·
                      rw [if_pos c64] at H
                      have LMc64 := Aside0.mk c64
                      clear c64
                      obtain ⟨y214, hy214⟩ : ∃ y_ : List Int, y_ = (x194000_1 ++ [x9_6]) := ⟨_, rfl⟩
                      replace H : (sobriquetref05_Pack.l0 kj28 l0 x4_2 (wrap64 (x5_1 + 1)) y214 x194001_1) = some (r1, r2) := by first | (rw [hy214]; with_reducible exact H) | (have H2_ := (Option.bind_some _ _).symm.trans H; rw [hy214]; with_reducible exact H2_) | (have H2_ := (Option.bind_some _ _).symm.trans H; with_reducible exact H2_) | with_reducible exact H | (rw [hy214]; exact H) | exact H
                      have Ny214 := Aside0.mk hy214
                      clear hy214
                      have H' := Aside0.mk H
                      clear H
                      have hnb65 := NB193_192.out
                      have hnc65 := NB192_193.out
                      have hcz66_0 : wc.cell? ⟨gb193, 0, none⟩ = some (u194000) := (blk_cell BK193.out 0).trans rfl
                      have hcz66_1 : wc.cell? ⟨gb193, 1, none⟩ = some (u194001) := (blk_cell BK193.out 1).trans rfl
                      have hfz66_0 := blk_frozen BK193.out 0
                      have hfz66_1 := blk_frozen BK193.out 1
                      go_wp2_with (first | ((with_reducible refine gate_builtin (b := .append) (xs := #[.tmp 117, .tmp 119]) rfl ?_); (try (refine gate_guard (by rfl) ?_; dsimp only)); at_builtin; refine Kd.R_append (Kd.int .i64) (w0 := w) w.heap.size rfl (.tmp 117) (.tmp 119) 23 3 (.int .i64 0) 8 rfl Try.underlying23 info3 rfl (by decide) (by omega) u194000 x194000_1 x9_6 [.int .i64 x9_6] (fun k_ => some k_ ≠ (v195 : Value).ownBlock ∧ some k_ ≠ (u194001 : Value).ownBlock) (fun _ => False) rfl rfl ?aP (fun _ hk => hk.elim) ?aF ?aO ?aB ?aS ?aL ?_; (case aP => exact rfl); (case aB => exact (by repeat (first | (with_reducible first | exact HB.out | apply below_alloc | apply pw_below_drewN | apply below_drew1 | refine below_set ?_ GE192.out | refine below_set ?_ GE193.out) | exact HB.out))); (case aF => exact (fun k_ hk => ⟨Kd.fresh' (Kd.R_lt (by (with_reducible repeat (first | apply Kd.R_alloc | apply Kd.R_drewN | apply Kd.R_drew)); exact HO_6.out)) k_ hk, Kd.fresh' (Kd.R_lt (by (with_reducible repeat (first | apply Kd.R_alloc | apply Kd.R_drewN | apply Kd.R_drew)); exact HO_194001.out)) k_ hk⟩)); (case aO => exact (by (with_reducible repeat (first | apply Kd.R_alloc | apply Kd.R_drewN | apply Kd.R_drew)); exact HO_194000.out)); (case aS => exact (below_size (by repeat (first | (with_reducible first | exact HB.out | apply below_alloc | apply pw_below_drewN | apply below_drew1 | refine below_set ?_ GE192.out | refine below_set ?_ GE193.out) | exact HB.out)))); (case aL => have := LMc64.out; omega); intro v215 w67 ho hb hg hat; rw [← Ny214.out] at ho; have n0_ := Aside0.mk (Kd.R_after (ok := (fun k_ => some k_ ≠ (u194001 : Value).ownBlock)) (by (with_reducible repeat (first | apply Kd.R_alloc | apply Kd.R_drewN | apply Kd.R_drew)); exact Kd.R_mono HO_6.out (fun _ hk => ⟨hk.2, hk.1⟩)) hg hat); have n1_ := Aside0.mk (Kd.R_after (ok := (fun k_ => some k_ ≠ (v195 : Value).ownBlock)) (by (with_reducible repeat (first | apply Kd.R_alloc | apply Kd.R_drewN | apply Kd.R_drew)); exact HO_194001.out) hg hat); have n2_ := Aside0.mk (blk_grown (g := gb192) (o := .cells #[.slice none 0 0, .slice none 0 0] 25 (0, 0)) (by (with_reducible repeat (first | refine blk_drewN ?_ _ | refine blk_drew ?_ | refine blk_alloc ?_ _)); exact BK192.out) hg (Kd.R_ne HO_194000.out BK192.out (by decide))); have n3_ := Aside0.mk (blk_grown (g := gb193) (o := .cells #[u194000, u194001] 25 (0, 0)) (by (with_reducible repeat (first | refine blk_drewN ?_ _ | refine blk_drew ?_ | refine blk_alloc ?_ _)); exact BK193.out) hg (Kd.R_ne HO_194000.out BK193.out (by decide))); have n4_ := Aside0.mk (hb); have n5_ := Aside0.mk (ho); clear HO_6; clear HO_194001; clear BK192; clear BK193; clear HB; clear HO_194000; have HO_6 := n0_; have HO_194001 := n1_; have BK192 := n2_; have BK193 := n3_; have HB := n4_; have HO216 := n5_; clear n0_ n1_ n2_ n3_ n4_ n5_; clear ho hb hg hat; obtain ⟨Ao68, co68, eo68⟩ := Kd.R_slice HO216.out; subst eo68; have hcz69_0 : w67.cell? ⟨gb193, 0, none⟩ = some (u194000) := (blk_cell BK193.out 0).trans rfl; have hcz69_1 : w67.cell? ⟨gb193, 1, none⟩ = some (u194001) := (blk_cell BK193.out 1).trans rfl; have hfz69_0 := blk_frozen BK193.out 0; have hfz69_1 := blk_frozen BK193.out 1))
                      go_roundg kj28
                      case measure => have := HK1.out; have := HK2.out; have := HJ7.out; have := HK4.out; have := HJ11.out; have := HK6.out; have := HJ28.out; omega
                      case rel => exact ⟨(x4_2), (wrap64 (x5_1 + 1)), (y214), (x194001_1), (.slice Ao68 y214.length co68), (u194001), (by first | rfl | (simp; done) | (simp [*]; done)), (by first | rfl | (simp; done) | (simp [*]; done)), H', ⟨by have := HK1.out; have := HK2.out; have := HJ7.out; have := HK4.out; have := HJ11.out; have := HK6.out; have := HJ28.out; omega⟩, ⟨by (with_reducible repeat (first | apply Kd.R_alloc | apply Kd.R_drewN | apply Kd.R_drew)); exact Kd.R_mono (Kd.R_far (p := ⟨gb193, 0, none⟩) (Kd.R_types HO216.out BK193.out (by decide)) (fun _ hk => hk.2) (.slice Ao68 y214.length co68)) (fun _ hk => hk.1.2)⟩, ⟨by (with_reducible repeat (first | apply Kd.R_alloc | apply Kd.R_drewN | apply Kd.R_drew)); exact Kd.R_mono (Kd.R_far (p := ⟨gb193, 0, none⟩) (Kd.R_types HO_194001.out BK193.out (by decide)) (fun _ hk => hk.2) (.slice Ao68 y214.length co68)) (fun _ hk => hk.1.2)⟩, ⟨by (with_reducible repeat (first | refine blk_drewN ?_ _ | refine blk_drew ?_ | refine blk_alloc ?_ _)); refine blk_far ?_ NB192_193.out _; (with_reducible repeat (first | refine blk_drewN ?_ _ | refine blk_drew ?_ | refine blk_alloc ?_ _)); exact BK192.out⟩, ⟨by (with_reducible repeat (first | refine blk_drewN ?_ _ | refine blk_drew ?_ | refine blk_alloc ?_ _)); refine blk_put (cs := #[u194000, u194001]) ?_ 0 _ rfl; (with_reducible repeat (first | refine blk_drewN ?_ _ | refine blk_drew ?_ | refine blk_alloc ?_ _)); exact BK193.out⟩, ⟨by repeat (first | (with_reducible first | exact HB.out | apply below_alloc | apply pw_below_drewN | apply below_drew1 | refine below_set ?_ GE192.out | refine below_set ?_ GE193.out) | exact HB.out)⟩⟩
                     ·
                      rw [if_neg c64] at H
                      exact absurd H (by simp)
    ·
     rw [if_neg c5] at H
     exact absurd H (by simp)
   ·
    rw [if_neg c4] at H
    have c4b0 : decide (x5_1 < 4352) = false := decide_eq_false c4
    clear c4
    simp only [Option.some.injEq, Prod.mk.injEq] at H
    obtain ⟨rfl, rfl⟩ := H
    have hnb70 := NB193_192.out
    have hnc70 := NB192_193.out
    have hcz71_0 : wr.cell? ⟨gb193, 0, none⟩ = some (u194000) := (blk_cell BK193.out 0).trans rfl
    have hcz71_1 : wr.cell? ⟨gb193, 1, none⟩ = some (u194001) := (blk_cell BK193.out 1).trans rfl
    have hfz71_0 := blk_frozen BK193.out 0
    have hfz71_1 := blk_frozen BK193.out 1
    obtain ⟨Ao72, co72, eo72⟩ := Kd.R_slice HO_194000.out
    subst eo72
    have hcz73_0 : wr.cell? ⟨gb192, 0, none⟩ = some (.slice none 0 0) := (blk_cell BK192.out 0).trans rfl
    have hcz73_1 : wr.cell? ⟨gb192, 1, none⟩ = some (.slice none 0 0) := (blk_cell BK192.out 1).trans rfl
    have hfz73_0 := blk_frozen BK192.out 0
    have hfz73_1 := blk_frozen BK192.out 1
    obtain ⟨Ao74, co74, eo74⟩ := Kd.R_slice HO_194001.out
    subst eo74
    go_wp2
    refine bodyPost_ret (results_cell_row rfl _ _ gb192 25 #[.slice Ao72 x194000_1.length co72, .slice Ao74 x194001_1.length co74] (0, 0) _ rfl (by (with_reducible repeat (first | refine blk_drewN ?_ _ | refine blk_drew ?_ | refine blk_alloc ?_ _)); refine blk_put (cs := #[.slice Ao72 x194000_1.length co72, .slice none 0 0]) ?_ 1 _ rfl; (with_reducible repeat (first | refine blk_drewN ?_ _ | refine blk_drew ?_ | refine blk_alloc ?_ _)); refine blk_put (cs := #[.slice none 0 0, .slice none 0 0]) ?_ 0 _ rfl; (with_reducible repeat (first | refine blk_drewN ?_ _ | refine blk_drew ?_ | refine blk_alloc ?_ _)); exact BK192.out) Try.underlying25 rfl (by kernel_rfl)) rfl ?_
    exact ⟨_, _, by first | rfl | (simp [errW_none, errW_some] <;> rfl) | (simp [*, errW_none, errW_some] <;> rfl), by (with_reducible repeat (first | apply Kd.R_alloc | apply Kd.R_drewN | apply Kd.R_drew)); exact Kd.R_mono (Kd.R_far (p := ⟨gb192, 1, none⟩) (Kd.R_far (p := ⟨gb192, 0, none⟩) (Kd.R_types HO_194000.out BK192.out (by decide)) (fun _ hk => hk.2) (.slice Ao72 x194000_1.length co72)) (fun _ hk => hk.2) (.slice Ao74 x194001_1.length co74)) (fun _ hk => hk.1), by (with_reducible repeat (first | apply Kd.R_alloc | apply Kd.R_drewN | apply Kd.R_drew)); exact Kd.R_mono (Kd.R_far (p := ⟨gb192, 1, none⟩) (Kd.R_far (p := ⟨gb192, 0, none⟩) (Kd.R_types HO_194001.out BK192.out (by decide)) (fun _ hk => hk.2) (.slice Ao72 x194000_1.length co72)) (fun _ hk => hk.2) (.slice Ao74 x194001_1.length co74)) (fun _ hk => hk.1), by repeat (first | (with_reducible first | exact HB.out | apply below_alloc | apply pw_below_drewN | apply below_drew1 | refine below_set ?_ GE192.out | refine below_set ?_ GE193.out) | exact HB.out)⟩

end Go.Proofs.Ytaniolefeieliaa.MRangesExact
