-- Written by a program of this session over the translation; checked by Lean alone.
import Derived.Test.YtbgmblpgdaociaaMShiftSetsx0
import Derived.Test.YtbgmblpgdaociaaMShiftSetsx1
import Derived.Test.YtbgmblpgdaociaaMShiftSetsx2
namespace Go.Proofs.Ytbgmblpgdaociaa.MShiftSets
open Go.RowKit Go.Proofs.YtbgmblpgdaociaaW.PrintWords Go.Proofs.YtbgmblpgdaociaaW.PrintLast Go.Proofs.YtbgmblpgdaociaaW.PrintMore
attribute [local go_sem] max2_int min2_int max_two min_two max_three min_three max_four min_four   -- for this text's walks alone
set_option linter.unusedVariables false
set_option linter.unusedSimpArgs false
set_option linter.unnecessarySimpa false

attribute [local go_sem high] eqA30
/-! ### sobriquetlaw17_ShiftSets: function 3 -/
mutual
def sobriquetlaw17_ShiftSets.j0 : Nat → Int → Bool → List Int → List Int → Int → Int → Option (Bool)
  | 0, _, _, _, _, _, _ => none
  | k + 1, x1, x3, x11, x13, x155000, x155001 => if x3 = true then (sobriquetlaw17_ShiftSets.j1 k x1 x11 x13 (decide (x1 > 0)) x155000 x155001) else (sobriquetlaw17_ShiftSets.j1 k x1 x11 x13 false x155000 x155001)
def sobriquetlaw17_ShiftSets.j1 : Nat → Int → List Int → List Int → Bool → Int → Int → Option (Bool)
  | 0, _, _, _, _, _, _ => none
  | k + 1, x1, x11, x13, x65, x155000, x155001 => if x65 = true then ((some (([27, (wrap64 (127 - x1)) % 256] : List Int) : List Int)).bind fun y159 => (if x11.length + y159.length < 140737488355328 then (sobriquetlaw17_ShiftSets.l0 k (x11 ++ y159) x13 0 x155000 x155001) else (none))) else (if x1 = 1 then (if x11.length < 140737488355328 then ((some (x11 ++ [14] : List Int)).bind fun y177 => (if y177.length + x13.length < 140737488355328 then ((shift_Tokens.f (y177 ++ x13)).bind fun bt183 => (if bt183.2.2 = 0 then (if (bt183.1.length : Int) = 1 then (if 0 < (bt183.1.length : Int) then (if (((rd_T30 bt183.1 0).f0) == x155000 && (((rd_T30 bt183.1 0).f1) == x155001)) = true then ((sobriquetlaw17_wakes.f k).bind fun t189 => (some t189)) else (some false)) else (none)) else (some false)) else (some false))) else (none))) else (none)) else (if x1 = 2 then (if x11.length < 140737488355328 then ((some (x11 ++ [25] : List Int)).bind fun y190 => (if y190.length + x13.length < 140737488355328 then ((shift_Tokens.f (y190 ++ x13)).bind fun bt196 => (if bt196.2.2 = 0 then (if (bt196.1.length : Int) = 1 then (if 0 < (bt196.1.length : Int) then (if (((rd_T30 bt196.1 0).f0) == x155000 && (((rd_T30 bt196.1 0).f1) == x155001)) = true then ((sobriquetlaw17_wakes.f k).bind fun t202 => (some t202)) else (some false)) else (none)) else (some false)) else (some false))) else (none))) else (none)) else (if x1 = 3 then (if x11.length < 140737488355328 then ((some (x11 ++ [29] : List Int)).bind fun y203 => (if y203.length + x13.length < 140737488355328 then ((shift_Tokens.f (y203 ++ x13)).bind fun bt209 => (if bt209.2.2 = 0 then (if (bt209.1.length : Int) = 1 then (if 0 < (bt209.1.length : Int) then (if (((rd_T30 bt209.1 0).f0) == x155000 && (((rd_T30 bt209.1 0).f1) == x155001)) = true then ((sobriquetlaw17_wakes.f k).bind fun t215 => (some t215)) else (some false)) else (none)) else (some false)) else (some false))) else (none))) else (none)) else (if x11.length + x13.length < 140737488355328 then ((shift_Tokens.f (x11 ++ x13)).bind fun bt219 => (if bt219.2.2 = 0 then (if (bt219.1.length : Int) = 1 then (if 0 < (bt219.1.length : Int) then (if (((rd_T30 bt219.1 0).f0) == x155000 && (((rd_T30 bt219.1 0).f1) == x155001)) = true then ((sobriquetlaw17_wakes.f k).bind fun t225 => (some t225)) else (some false)) else (none)) else (some false)) else (some false))) else (none)))))
def sobriquetlaw17_ShiftSets.l0 : Nat → List Int → List Int → Int → Int → Int → Option (Bool)
  | 0, _, _, _, _, _ => none
  | k + 1, x11, x13, x15, x155000, x155001 => if x15 < (x13.length : Int) then (if 0 ≤ x15 then (sobriquetlaw17_ShiftSets.l0 k x11 (x13.set (x15 : Int).toNat (((rd x13 x15) + 128) % 256)) (wrap64 (x15 + 1)) x155000 x155001) else (none)) else (if x11.length + x13.length < 140737488355328 then ((shift_Tokens.f (x11 ++ x13)).bind fun bt170 => (if bt170.2.2 = 0 then (if (bt170.1.length : Int) = 1 then (if 0 < (bt170.1.length : Int) then (if (((rd_T30 bt170.1 0).f0) == x155000 && (((rd_T30 bt170.1 0).f1) == x155001)) = true then ((sobriquetlaw17_wakes.f k).bind fun t176 => (some t176)) else (some false)) else (none)) else (some false)) else (some false))) else (none))
end
def sobriquetlaw17_ShiftSets.f (k : Nat) (a0 : Int) (a1 : Int) (a2 : Int) (a3 : Bool) : Option (Bool) := (api_Sets.f).bind fun t140 => (if t140.length < 17592186044416 then ((some (t140 ++ [103] : List Int)).bind fun y143 => (if (IntKind.u64.wrap ((y143.length : Int))) = 0 then (none) else (if 0 ≤ (wrap64 (Int.tmod (IntKind.u64.wrap (a0)) (IntKind.u64.wrap ((y143.length : Int))))) then (if (wrap64 (Int.tmod (IntKind.u64.wrap (a0)) (IntKind.u64.wrap ((y143.length : Int))))) < (y143.length : Int) then ((shift_Escape.f k (wrap64 (Int.tmod (IntKind.u64.wrap (a1)) 4)) (rd y143 (wrap64 (Int.tmod (IntKind.u64.wrap (a0)) (IntKind.u64.wrap ((y143.length : Int))))))).bind fun bt147 => (if bt147.2 = 0 then ((some (([(wrap64 (33 + (wrap64 (Int.tmod (IntKind.u64.wrap (a2)) 94)))) % 256] : List Int) : List Int)).bind fun y151 => ((csets_Wide.f (rd y143 (wrap64 (Int.tmod (IntKind.u64.wrap (a0)) (IntKind.u64.wrap ((y143.length : Int))))))).bind fun t155 => (if t155 = true then (if y151.length < 140737488355328 then (sobriquetlaw17_ShiftSets.j0 k (wrap64 (Int.tmod (IntKind.u64.wrap (a1)) 4)) a3 bt147.1 (y151 ++ [(wrap64 (33 + (wrap64 (Int.tmod (IntKind.u64.wrap (a2)) 94)))) % 256]) (rd y143 (wrap64 (Int.tmod (IntKind.u64.wrap (a0)) (IntKind.u64.wrap ((y143.length : Int)))))) (wrap64 (257 * (wrap64 (33 + (wrap64 (Int.tmod (IntKind.u64.wrap (a2)) 94))))))) else (none)) else (sobriquetlaw17_ShiftSets.j0 k (wrap64 (Int.tmod (IntKind.u64.wrap (a1)) 4)) a3 bt147.1 y151 (rd y143 (wrap64 (Int.tmod (IntKind.u64.wrap (a0)) (IntKind.u64.wrap ((y143.length : Int)))))) (wrap64 (33 + (wrap64 (Int.tmod (IntKind.u64.wrap (a2)) 94)))))))) else (some false))) else (none)) else (none)))) else (none))
theorem sobriquetlaw17_ShiftSets.mono_l : ∀ k, (∀ y0 y1 y2 y3 y4 y5, LeO (sobriquetlaw17_ShiftSets.j0 k y0 y1 y2 y3 y4 y5) (sobriquetlaw17_ShiftSets.j0 (k + 1) y0 y1 y2 y3 y4 y5)) ∧ (∀ y0 y1 y2 y3 y4 y5, LeO (sobriquetlaw17_ShiftSets.j1 k y0 y1 y2 y3 y4 y5) (sobriquetlaw17_ShiftSets.j1 (k + 1) y0 y1 y2 y3 y4 y5)) ∧ (∀ y0 y1 y2 y3 y4, LeO (sobriquetlaw17_ShiftSets.l0 k y0 y1 y2 y3 y4) (sobriquetlaw17_ShiftSets.l0 (k + 1) y0 y1 y2 y3 y4))
  | 0 => ⟨fun _ _ _ _ _ _ r h => by simp [sobriquetlaw17_ShiftSets.j0] at h, fun _ _ _ _ _ _ r h => by simp [sobriquetlaw17_ShiftSets.j1] at h, fun _ _ _ _ _ r h => by simp [sobriquetlaw17_ShiftSets.l0] at h⟩
  | k + 1 => by
    obtain ⟨ih0, ih1, ih2⟩ := sobriquetlaw17_ShiftSets.mono_l k
    refine ⟨?_, ?_, ?_⟩
    · intro y0 y1 y2 y3 y4 y5
      unfold sobriquetlaw17_ShiftSets.j0
      repeat' first
      | (with_reducible exact ih0 _ _ _ _ _ _)
      | (with_reducible exact ih1 _ _ _ _ _ _)
      | (with_reducible exact ih2 _ _ _ _ _)
      | (with_reducible exact shift_Escape.mono _ _ _)
      | (with_reducible exact sobriquetlaw17_wakes.mono _)
      | (with_reducible exact LeO.refl _)
      | (with_reducible exact LeO.none _)
      | (with_reducible refine LeO.ite ?_ ?_)
      | (with_reducible refine LeO.bind ?_ (fun _ => ?_))
      | exact ih0 _ _ _ _ _ _
      | exact ih1 _ _ _ _ _ _
      | exact ih2 _ _ _ _ _
      | exact shift_Escape.mono _ _ _
      | exact sobriquetlaw17_wakes.mono _
      | exact LeO.none _
      | refine LeO.ite ?_ ?_
      | refine LeO.bind ?_ (fun _ => ?_)
    · intro y0 y1 y2 y3 y4 y5
      unfold sobriquetlaw17_ShiftSets.j1
      repeat' first
      | (with_reducible exact ih0 _ _ _ _ _ _)
      | (with_reducible exact ih1 _ _ _ _ _ _)
      | (with_reducible exact ih2 _ _ _ _ _)
      | (with_reducible exact shift_Escape.mono _ _ _)
      | (with_reducible exact sobriquetlaw17_wakes.mono _)
      | (with_reducible exact LeO.refl _)
      | (with_reducible exact LeO.none _)
      | (with_reducible refine LeO.ite ?_ ?_)
      | (with_reducible refine LeO.bind ?_ (fun _ => ?_))
      | exact ih0 _ _ _ _ _ _
      | exact ih1 _ _ _ _ _ _
      | exact ih2 _ _ _ _ _
      | exact shift_Escape.mono _ _ _
      | exact sobriquetlaw17_wakes.mono _
      | exact LeO.none _
      | refine LeO.ite ?_ ?_
      | refine LeO.bind ?_ (fun _ => ?_)
    · intro y0 y1 y2 y3 y4
      unfold sobriquetlaw17_ShiftSets.l0
      repeat' first
      | (with_reducible exact ih0 _ _ _ _ _ _)
      | (with_reducible exact ih1 _ _ _ _ _ _)
      | (with_reducible exact ih2 _ _ _ _ _)
      | (with_reducible exact shift_Escape.mono _ _ _)
      | (with_reducible exact sobriquetlaw17_wakes.mono _)
      | (with_reducible exact LeO.refl _)
      | (with_reducible exact LeO.none _)
      | (with_reducible refine LeO.ite ?_ ?_)
      | (with_reducible refine LeO.bind ?_ (fun _ => ?_))
      | exact ih0 _ _ _ _ _ _
      | exact ih1 _ _ _ _ _ _
      | exact ih2 _ _ _ _ _
      | exact shift_Escape.mono _ _ _
      | exact sobriquetlaw17_wakes.mono _
      | exact LeO.none _
      | refine LeO.ite ?_ ?_
      | refine LeO.bind ?_ (fun _ => ?_)
theorem sobriquetlaw17_ShiftSets.mono : ∀ a0 a1 a2 a3 k, LeO (sobriquetlaw17_ShiftSets.f k a0 a1 a2 a3) (sobriquetlaw17_ShiftSets.f (k + 1) a0 a1 a2 a3) := by
  intro a0 a1 a2 a3 k
  obtain ⟨ih0, ih1, ih2⟩ := sobriquetlaw17_ShiftSets.mono_l k
  unfold sobriquetlaw17_ShiftSets.f
  repeat' first
      | (with_reducible exact ih0 _ _ _ _ _ _)
      | (with_reducible exact ih1 _ _ _ _ _ _)
      | (with_reducible exact ih2 _ _ _ _ _)
      | (with_reducible exact shift_Escape.mono _ _ _)
      | (with_reducible exact sobriquetlaw17_wakes.mono _)
      | (with_reducible exact LeO.refl _)
      | (with_reducible exact LeO.none _)
      | (with_reducible refine LeO.ite ?_ ?_)
      | (with_reducible refine LeO.bind ?_ (fun _ => ?_))
      | exact ih0 _ _ _ _ _ _
      | exact ih1 _ _ _ _ _ _
      | exact ih2 _ _ _ _ _
      | exact shift_Escape.mono _ _ _
      | exact sobriquetlaw17_wakes.mono _
      | exact LeO.none _
      | refine LeO.ite ?_ ?_
      | refine LeO.bind ?_ (fun _ => ?_)
def sobriquetlaw17_ShiftSets.T25 : Bool × List (List Nat × List Nat) := (true, [([], []), ([0], [0]), ([1], [1]), ([2], [2]), ([3, 2], [2, 3]), ([4, 2], [2, 4]), ([2, 5], [2, 5]), ([6, 2], [6]), ([7], [7]), ([8, 7], [7, 8]), ([9, 7], [7, 9]), ([7], [7]), ([10, 11, 7], [7, 10, 11]), ([7, 12], [7, 12]), ([13, 7], [13]), ([14, 14], [14]), ([14, 15], [14, 15]), ([16, 15, 0, 1, 2, 3, 4, 5, 6, 7, 8, 9, 10, 11, 12, 13, 14, 15, 16], [16])])
def sobriquetlaw17_ShiftSets.B25 : List Nat := [0, 1, 3, 7, 15, 31, 63, 127, 255, 511, 1023, 255, 4095, 8191, 16383, 32767, 65535, 131071]
theorem sobriquetlaw17_ShiftSets.tab25 : rtab .any (opsOf Try.f3 25) = sobriquetlaw17_ShiftSets.T25 := by kernel_rfl
theorem sobriquetlaw17_ShiftSets.bits25 : waitsOk sobriquetlaw17_ShiftSets.T25.2 sobriquetlaw17_ShiftSets.B25 = true := by kernel_rfl
set_option maxHeartbeats 8000000 in
set_option maxRecDepth 100000 in
theorem sobriquetlaw17_ShiftSets.calls (k : Nat) (a0 : Int) (a1 : Int) (a2 : Int) (a3 : Bool) (r : Bool) (w : World) (h : sobriquetlaw17_ShiftSets.f k a0 a1 a2 a3 = some r) (hrt0 : r = true) :
    Calls Try.prog 3 #[.int .i64 a0, .int .i64 a1, .int .i64 a2, .bool a3] w fun e w' => e = .returned (.bool r) ∧ Below w.heap.size w w' := by
  have hu30 := Try.underlying30
  have HB := Aside0.mk (Below.refl w.heap.size w)
  have hrt := Aside0.mk hrt0
  clear hrt0
  have H : ((api_Sets.f).bind fun t140 => (if t140.length < 17592186044416 then ((some (t140 ++ [103] : List Int)).bind fun y143 => (if (IntKind.u64.wrap ((y143.length : Int))) = 0 then (none) else (if 0 ≤ (wrap64 (Int.tmod (IntKind.u64.wrap (a0)) (IntKind.u64.wrap ((y143.length : Int))))) then (if (wrap64 (Int.tmod (IntKind.u64.wrap (a0)) (IntKind.u64.wrap ((y143.length : Int))))) < (y143.length : Int) then ((shift_Escape.f k (wrap64 (Int.tmod (IntKind.u64.wrap (a1)) 4)) (rd y143 (wrap64 (Int.tmod (IntKind.u64.wrap (a0)) (IntKind.u64.wrap ((y143.length : Int))))))).bind fun bt147 => (if bt147.2 = 0 then ((some (([(wrap64 (33 + (wrap64 (Int.tmod (IntKind.u64.wrap (a2)) 94)))) % 256] : List Int) : List Int)).bind fun y151 => ((csets_Wide.f (rd y143 (wrap64 (Int.tmod (IntKind.u64.wrap (a0)) (IntKind.u64.wrap ((y143.length : Int))))))).bind fun t155 => (if t155 = true then (if y151.length < 140737488355328 then (sobriquetlaw17_ShiftSets.j0 k (wrap64 (Int.tmod (IntKind.u64.wrap (a1)) 4)) a3 bt147.1 (y151 ++ [(wrap64 (33 + (wrap64 (Int.tmod (IntKind.u64.wrap (a2)) 94)))) % 256]) (rd y143 (wrap64 (Int.tmod (IntKind.u64.wrap (a0)) (IntKind.u64.wrap ((y143.length : Int)))))) (wrap64 (257 * (wrap64 (33 + (wrap64 (Int.tmod (IntKind.u64.wrap (a2)) 94))))))) else (none)) else (sobriquetlaw17_ShiftSets.j0 k (wrap64 (Int.tmod (IntKind.u64.wrap (a1)) 4)) a3 bt147.1 y151 (rd y143 (wrap64 (Int.tmod (IntKind.u64.wrap (a0)) (IntKind.u64.wrap ((y143.length : Int)))))) (wrap64 (33 + (wrap64 (Int.tmod (IntKind.u64.wrap (a2)) 94)))))))) else (some false))) else (none)) else (none)))) else (none))) = some r := h
  clear h
  replace H := Option.bind_eq_some_iff.mp H
  obtain ⟨t140, A50, H⟩ := H
  replace H : (if t140.length < 17592186044416 then ((some (t140 ++ [103] : List Int)).bind fun y143 => (if (IntKind.u64.wrap ((y143.length : Int))) = 0 then (none) else (if 0 ≤ (wrap64 (Int.tmod (IntKind.u64.wrap (a0)) (IntKind.u64.wrap ((y143.length : Int))))) then (if (wrap64 (Int.tmod (IntKind.u64.wrap (a0)) (IntKind.u64.wrap ((y143.length : Int))))) < (y143.length : Int) then ((shift_Escape.f k (wrap64 (Int.tmod (IntKind.u64.wrap (a1)) 4)) (rd y143 (wrap64 (Int.tmod (IntKind.u64.wrap (a0)) (IntKind.u64.wrap ((y143.length : Int))))))).bind fun bt147 => (if bt147.2 = 0 then ((some (([(wrap64 (33 + (wrap64 (Int.tmod (IntKind.u64.wrap (a2)) 94)))) % 256] : List Int) : List Int)).bind fun y151 => ((csets_Wide.f (rd y143 (wrap64 (Int.tmod (IntKind.u64.wrap (a0)) (IntKind.u64.wrap ((y143.length : Int))))))).bind fun t155 => (if t155 = true then (if y151.length < 140737488355328 then (sobriquetlaw17_ShiftSets.j0 k (wrap64 (Int.tmod (IntKind.u64.wrap (a1)) 4)) a3 bt147.1 (y151 ++ [(wrap64 (33 + (wrap64 (Int.tmod (IntKind.u64.wrap (a2)) 94)))) % 256]) (rd y143 (wrap64 (Int.tmod (IntKind.u64.wrap (a0)) (IntKind.u64.wrap ((y143.length : Int)))))) (wrap64 (257 * (wrap64 (33 + (wrap64 (Int.tmod (IntKind.u64.wrap (a2)) 94))))))) else (none)) else (sobriquetlaw17_ShiftSets.j0 k (wrap64 (Int.tmod (IntKind.u64.wrap (a1)) 4)) a3 bt147.1 y151 (rd y143 (wrap64 (Int.tmod (IntKind.u64.wrap (a0)) (IntKind.u64.wrap ((y143.length : Int)))))) (wrap64 (33 + (wrap64 (Int.tmod (IntKind.u64.wrap (a2)) 94)))))))) else (some false))) else (none)) else (none)))) else (none)) = some r := H
  have A5 := Aside0.mk A50
  clear A50
  by_cases c6 : t140.length < 17592186044416
  · rw [if_pos c6] at H
    have LMc6 := Aside0.mk c6
    clear c6
    obtain ⟨y143, hy143⟩ : ∃ y_ : List Int, y_ = (t140 ++ [103]) := ⟨_, rfl⟩
    replace H : (if (IntKind.u64.wrap ((y143.length : Int))) = 0 then (none) else (if 0 ≤ (wrap64 (Int.tmod (IntKind.u64.wrap (a0)) (IntKind.u64.wrap ((y143.length : Int))))) then (if (wrap64 (Int.tmod (IntKind.u64.wrap (a0)) (IntKind.u64.wrap ((y143.length : Int))))) < (y143.length : Int) then ((shift_Escape.f k (wrap64 (Int.tmod (IntKind.u64.wrap (a1)) 4)) (rd y143 (wrap64 (Int.tmod (IntKind.u64.wrap (a0)) (IntKind.u64.wrap ((y143.length : Int))))))).bind fun bt147 => (if bt147.2 = 0 then ((some (([(wrap64 (33 + (wrap64 (Int.tmod (IntKind.u64.wrap (a2)) 94)))) % 256] : List Int) : List Int)).bind fun y151 => ((csets_Wide.f (rd y143 (wrap64 (Int.tmod (IntKind.u64.wrap (a0)) (IntKind.u64.wrap ((y143.length : Int))))))).bind fun t155 => (if t155 = true then (if y151.length < 140737488355328 then (sobriquetlaw17_ShiftSets.j0 k (wrap64 (Int.tmod (IntKind.u64.wrap (a1)) 4)) a3 bt147.1 (y151 ++ [(wrap64 (33 + (wrap64 (Int.tmod (IntKind.u64.wrap (a2)) 94)))) % 256]) (rd y143 (wrap64 (Int.tmod (IntKind.u64.wrap (a0)) (IntKind.u64.wrap ((y143.length : Int)))))) (wrap64 (257 * (wrap64 (33 + (wrap64 (Int.tmod (IntKind.u64.wrap (a2)) 94))))))) else (none)) else (sobriquetlaw17_ShiftSets.j0 k (wrap64 (Int.tmod (IntKind.u64.wrap (a1)) 4)) a3 bt147.1 y151 (rd y143 (wrap64 (Int.tmod (IntKind.u64.wrap (a0)) (IntKind.u64.wrap ((y143.length : Int)))))) (wrap64 (33 + (wrap64 (Int.tmod (IntKind.u64.wrap (a2)) 94)))))))) else (some false))) else (none)) else (none))) = some r := by first | (rw [hy143]; with_reducible exact H) | (have H2_ := (Option.bind_some _ _).symm.trans H; rw [hy143]; with_reducible exact H2_) | (have H2_ := (Option.bind_some _ _).symm.trans H; with_reducible exact H2_) | with_reducible exact H | (rw [hy143]; exact H) | exact H
    have Ny143 := Aside0.mk hy143
    clear hy143
    by_cases c7 : (IntKind.u64.wrap ((y143.length : Int))) = 0
    · rw [if_pos c7] at H
      exact absurd H (by simp)
    · rw [if_neg c7] at H
      have c7b0 : ((IntKind.u64.wrap ((y143.length : Int))) == 0) = false := beq_eq_false_iff_ne.mpr c7
      have c7b1 : ((IntKind.u64.wrap ((y143.length : Int))) != 0) = true := bne_iff_ne.mpr c7
      obtain ⟨ji8, hji8⟩ : ∃ j_ : Int, (wrap64 (Int.tmod (IntKind.u64.wrap (a0)) (IntKind.u64.wrap ((y143.length : Int))))) = j_ := ⟨_, rfl⟩
      replace H : (if 0 ≤ (ji8) then (if (ji8) < (y143.length : Int) then ((shift_Escape.f k (wrap64 (Int.tmod (IntKind.u64.wrap (a1)) 4)) (rd y143 (ji8))).bind fun bt147 => (if bt147.2 = 0 then ((some (([(wrap64 (33 + (wrap64 (Int.tmod (IntKind.u64.wrap (a2)) 94)))) % 256] : List Int) : List Int)).bind fun y151 => ((csets_Wide.f (rd y143 (ji8))).bind fun t155 => (if t155 = true then (if y151.length < 140737488355328 then (sobriquetlaw17_ShiftSets.j0 k (wrap64 (Int.tmod (IntKind.u64.wrap (a1)) 4)) a3 bt147.1 (y151 ++ [(wrap64 (33 + (wrap64 (Int.tmod (IntKind.u64.wrap (a2)) 94)))) % 256]) (rd y143 (ji8)) (wrap64 (257 * (wrap64 (33 + (wrap64 (Int.tmod (IntKind.u64.wrap (a2)) 94))))))) else (none)) else (sobriquetlaw17_ShiftSets.j0 k (wrap64 (Int.tmod (IntKind.u64.wrap (a1)) 4)) a3 bt147.1 y151 (rd y143 (ji8)) (wrap64 (33 + (wrap64 (Int.tmod (IntKind.u64.wrap (a2)) 94)))))))) else (some false))) else (none)) else (none)) = some r := by first | (rw [hji8] at H; exact H) | (simp only [hji8] at H ⊢; exact H)
      (try rw [hji8] at A5)
      have hji8w : (IntKind.i64.wrap (Int.tmod (IntKind.u64.wrap (a0)) (IntKind.u64.wrap ((y143.length : Int))))) = ji8 := (i64_w _).trans hji8
      by_cases c9 : 0 ≤ (ji8)
      · rw [if_pos c9] at H
        have c9b0 : decide (0 ≤ (ji8)) = true := decide_eq_true c9
        clear c9
        by_cases c10 : (ji8) < (y143.length : Int)
        · rw [if_pos c10] at H
          have c10b0 : decide ((ji8) < (y143.length : Int)) = true := decide_eq_true c10
          clear c10
          replace H := Option.bind_eq_some_iff.mp H
          obtain ⟨⟨t147, t148⟩, A110, H⟩ := H
          replace H : (if t148 = 0 then ((some (([(wrap64 (33 + (wrap64 (Int.tmod (IntKind.u64.wrap (a2)) 94)))) % 256] : List Int) : List Int)).bind fun y151 => ((csets_Wide.f (rd y143 (ji8))).bind fun t155 => (if t155 = true then (if y151.length < 140737488355328 then (sobriquetlaw17_ShiftSets.j0 k (wrap64 (Int.tmod (IntKind.u64.wrap (a1)) 4)) a3 t147 (y151 ++ [(wrap64 (33 + (wrap64 (Int.tmod (IntKind.u64.wrap (a2)) 94)))) % 256]) (rd y143 (ji8)) (wrap64 (257 * (wrap64 (33 + (wrap64 (Int.tmod (IntKind.u64.wrap (a2)) 94))))))) else (none)) else (sobriquetlaw17_ShiftSets.j0 k (wrap64 (Int.tmod (IntKind.u64.wrap (a1)) 4)) a3 t147 y151 (rd y143 (ji8)) (wrap64 (33 + (wrap64 (Int.tmod (IntKind.u64.wrap (a2)) 94)))))))) else (some false)) = some r := H
          have A11 := Aside0.mk A110
          clear A110
          by_cases c12 : t148 = 0
          · rw [if_pos c12] at H
            have c12b0 : (t148 == 0) = true := beq_iff_eq.mpr c12
            have c12b1 : (t148 != 0) = false := bne_eq_false_iff_eq.mpr c12
            clear c12
            obtain ⟨y151, hy151⟩ : ∃ y_ : List Int, y_ = (([(wrap64 (33 + (wrap64 (Int.tmod (IntKind.u64.wrap (a2)) 94)))) % 256] : List Int)) := ⟨_, rfl⟩
            replace H : ((csets_Wide.f (rd y143 (ji8))).bind fun t155 => (if t155 = true then (if y151.length < 140737488355328 then (sobriquetlaw17_ShiftSets.j0 k (wrap64 (Int.tmod (IntKind.u64.wrap (a1)) 4)) a3 t147 (y151 ++ [(wrap64 (33 + (wrap64 (Int.tmod (IntKind.u64.wrap (a2)) 94)))) % 256]) (rd y143 (ji8)) (wrap64 (257 * (wrap64 (33 + (wrap64 (Int.tmod (IntKind.u64.wrap (a2)) 94))))))) else (none)) else (sobriquetlaw17_ShiftSets.j0 k (wrap64 (Int.tmod (IntKind.u64.wrap (a1)) 4)) a3 t147 y151 (rd y143 (ji8)) (wrap64 (33 + (wrap64 (Int.tmod (IntKind.u64.wrap (a2)) 94))))))) = some r := by first | (rw [hy151]; with_reducible exact H) | (have H2_ := (Option.bind_some _ _).symm.trans H; rw [hy151]; with_reducible exact H2_) | (have H2_ := (Option.bind_some _ _).symm.trans H; with_reducible exact H2_) | with_reducible exact H | (rw [hy151]; exact H) | exact H
            have Ny151 := Aside0.mk hy151
            clear hy151
            replace H := Option.bind_eq_some_iff.mp H
            obtain ⟨t155, A130, H⟩ := H
            replace H : (if t155 = true then (if y151.length < 140737488355328 then (sobriquetlaw17_ShiftSets.j0 k (wrap64 (Int.tmod (IntKind.u64.wrap (a1)) 4)) a3 t147 (y151 ++ [(wrap64 (33 + (wrap64 (Int.tmod (IntKind.u64.wrap (a2)) 94)))) % 256]) (rd y143 (ji8)) (wrap64 (257 * (wrap64 (33 + (wrap64 (Int.tmod (IntKind.u64.wrap (a2)) 94))))))) else (none)) else (sobriquetlaw17_ShiftSets.j0 k (wrap64 (Int.tmod (IntKind.u64.wrap (a1)) 4)) a3 t147 y151 (rd y143 (ji8)) (wrap64 (33 + (wrap64 (Int.tmod (IntKind.u64.wrap (a2)) 94)))))) = some r := H
            have A13 := Aside0.mk A130
            clear A130
            have HC14 := Aside0.mk H
            clear H
            go_enter Try.func3, Try.ntmps3
            go_upto_if 56 with (first | ((with_reducible refine gate_callee (f := 6) rfl ?_); refine goesL_ (some 19) rfl rfl Try.func6 (by kernel_rfl) rfl #[] rfl (by (try simp only [List.map_toArray, List.map_cons, List.map_nil]); first | done | rfl | (simp only [List.length_drop, List.length_take]; rfl)) ?_; (with_reducible refine (api_Sets.calls  t140 _ A5.out).mono ?_); rintro e w15 ⟨v141, rfl, ho0, hb⟩; refine ⟨_, rfl, ?_⟩; have n0_ := Aside0.mk (Kd.R_lower ho0 (below_size (by repeat (first | (with_reducible first | exact HB.out | apply below_alloc | apply pw_below_drewN | apply below_drew1) | exact HB.out)))); have n1_ := Aside0.mk (below_step (by repeat (first | (with_reducible first | exact HB.out | apply below_alloc | apply pw_below_drewN | apply below_drew1) | exact HB.out)) hb); clear HB; have HO142 := n0_; have HB := n1_; clear n0_ n1_; (try clear hb); (try clear hb2); (try clear hk); (try clear hi); (try clear ho0)) | ((with_reducible refine gate_builtin (b := .append) (xs := #[.tmp 19, .tmp 20]) rfl ?_); (try (refine gate_guard (by rfl) ?_; dsimp only)); at_builtin; refine Kd.R_append (Kd.int .i64) (w0 := w) w.heap.size rfl (.tmp 19) (.tmp 20) 22 3 (.int .i64 0) 8 rfl Try.underlying22 info3 rfl (by decide) (by omega) v141 t140 103 [.int .i64 103] (fun _ => True) (fun _ => False) rfl rfl ?aP (fun _ hk => hk.elim) ?aF ?aO ?aB ?aS ?aL ?_; (case aP => exact rfl); (case aB => exact (by repeat (first | (with_reducible first | exact HB.out | apply below_alloc | apply pw_below_drewN | apply below_drew1) | exact HB.out))); (case aF => exact (fun _ _ => trivial)); (case aO => exact (by (with_reducible repeat (first | apply Kd.R_alloc | apply Kd.R_drewN | apply Kd.R_drew)); exact HO142.out)); (case aS => exact (below_size (by repeat (first | (with_reducible first | exact HB.out | apply below_alloc | apply pw_below_drewN | apply below_drew1) | exact HB.out)))); (case aL => have := LMc6.out; omega); intro v144 w16 ho hb hg hat; rw [← Ny143.out] at ho; have n0_ := Aside0.mk (hb); have n1_ := Aside0.mk (ho); clear HB; clear HO142; have HB := n0_; have HO145 := n1_; clear n0_ n1_; clear ho hb hg hat; obtain ⟨Ao17, co17, eo17⟩ := Kd.R_slice HO145.out; subst eo17; have p146 : 0 ≤ ((ji8) : Int) := of_decide_eq_true (by first | (with_reducible assumption) | assumption); have q146 : (ji8) < (y143.length : Int) := of_decide_eq_true (by first | (with_reducible assumption) | assumption); obtain ⟨ad146, e146, hx146_0⟩ := Kd.at_int (Kd.R_reads' HO145.out).2.2 (ji8) p146 q146; cases e146; replace p146 := eq_true p146; replace q146 := eq_true q146) | ((with_reducible refine gate_callee (f := 7) rfl ?_); refine goesL_ (some 44) rfl rfl Try.func7 (by kernel_rfl) rfl #[.int .i64 (wrap64 (Int.tmod (IntKind.u64.wrap (a1)) 4)), .int .i64 (rd y143 (ji8))] rfl (by (try simp only [List.map_toArray, List.map_cons, List.map_nil]); first | done | (simp only [hji8]; rfl) | rfl | (simp only [List.length_drop, List.length_take]; rfl)) ?_; (with_reducible refine (shift_Escape.calls k (wrap64 (Int.tmod (IntKind.u64.wrap (a1)) 4)) (rd y143 (ji8)) t147 t148 _ A11.out).mono ?_); rintro e w18 ⟨v149, rfl, ho0, hb⟩; refine ⟨_, rfl, ?_⟩; have n0_ := Aside0.mk (Kd.R_below (by (with_reducible repeat (first | apply Kd.R_alloc | apply Kd.R_drewN | apply Kd.R_drew)); exact HO145.out) hb); have n1_ := Aside0.mk (Kd.R_lower ho0 (below_size (by repeat (first | (with_reducible first | exact HB.out | apply below_alloc | apply pw_below_drewN | apply below_drew1) | exact HB.out)))); have n2_ := Aside0.mk (below_step (by repeat (first | (with_reducible first | exact HB.out | apply below_alloc | apply pw_below_drewN | apply below_drew1) | exact HB.out)) hb); clear HO145; clear HB; have HO145 := n0_; have HO150 := n1_; have HB := n2_; clear n0_ n1_ n2_; (try clear hb); (try clear hb2); (try clear hk); (try clear hi); (try clear ho0)) | ((with_reducible refine gate_dst (N := 51) rfl ?_); (try (refine gate_guard (by rfl) ?_; dsimp only)); refine Kd.R_lit (Kd.int .u8) _ 5 ?hg (N := 51) ?hd (xs := ([(wrap64 (33 + (wrap64 (Int.tmod (IntKind.u64.wrap (a2)) 94)))) % 256] : List Int)) (inner := [.int .u8 ((wrap64 (33 + (wrap64 (Int.tmod (IntKind.u64.wrap (a2)) 94)))) % 256)]) (ok := fun _ => True) (okp := fun _ => True) ?hr ?hp (fun _ hk => hk) trivial (Below.refl _ _) (Nat.le_refl _) (by simp) ?_; (case hd => rfl); (case hg => rfl); (case hr => first | (go_simp; done) | (go_simp; rfl)); (case hp => exact (Reps.one (show Kd.M (Kd.int .u8) _ _ _ ((wrap64 (33 + (wrap64 (Int.tmod (IntKind.u64.wrap (a2)) 94)))) % 256) [.int .u8 ((wrap64 (33 + (wrap64 (Int.tmod (IntKind.u64.wrap (a2)) 94)))) % 256)] from rfl) (Reps.none _ _))); intro v152 w19 ho20 hb hg_ hnew_; clear hg_ hnew_; (first | rw [← Ny151.out] at ho20 | (simp only [Int.reduceToNat] at ho20; rw [← Ny151.out] at ho20)); have n0_ := Aside0.mk (Kd.R_below (by (with_reducible repeat (first | apply Kd.R_alloc | apply Kd.R_drewN | apply Kd.R_drew)); exact HO145.out) hb); have n1_ := Aside0.mk (Kd.R_elder' (by (with_reducible repeat (first | apply Kd.R_alloc | apply Kd.R_drewN | apply Kd.R_drew)); exact HO150.out) (Kd.R_base ho20) hb); have n2_ := Aside0.mk (Kd.R_lower (Kd.R_new' ho20 (Kd.R_lt (by (with_reducible repeat (first | apply Kd.R_alloc | apply Kd.R_drewN | apply Kd.R_drew)); exact HO150.out))) (below_size (by repeat (first | (with_reducible first | exact HB.out | apply below_alloc | apply pw_below_drewN | apply below_drew1) | exact HB.out)))); have n3_ := Aside0.mk (below_step (by repeat (first | (with_reducible first | exact HB.out | apply below_alloc | apply pw_below_drewN | apply below_drew1) | exact HB.out)) hb); clear HO145; clear HO150; clear HB; have HO145 := n0_; have HO150 := n1_; have HO153 := n2_; have HB := n3_; clear n0_ n1_ n2_ n3_; clear hb ho20) | ((with_reducible refine gate_dst (N := 14) rfl ?_); (try (refine gate_guard (by rfl) ?_; dsimp only)); refine box_event ?hg (N := 14) ?hd (cs := #[.int .i64 0, .int .i64 0]) (t := 30) ?hr ?_; (case hd => rfl); (case hg => rfl); (case hr => first | (go_simp; done) | (go_simp; rfl)); intro gb154 hg w21 hbox hb; have n0_ := Aside0.mk (Kd.R_below (by (with_reducible repeat (first | apply Kd.R_alloc | apply Kd.R_drewN | apply Kd.R_drew)); exact HO145.out) hb); have n1_ := Aside0.mk (Kd.R_below (by (with_reducible repeat (first | apply Kd.R_alloc | apply Kd.R_drewN | apply Kd.R_drew)); exact HO150.out) hb); have n2_ := Aside0.mk (Kd.R_below (by (with_reducible repeat (first | apply Kd.R_alloc | apply Kd.R_drewN | apply Kd.R_drew)); exact HO153.out) hb); have n3_ := Aside0.mk (below_step (by repeat (first | (with_reducible first | exact HB.out | apply below_alloc | apply pw_below_drewN | apply below_drew1) | exact HB.out)) hb); have n4_ := Aside0.mk (hbox); have n5_ := Aside0.mk ((by rw [hg]; exact (below_size (by repeat (first | (with_reducible first | exact HB.out | apply below_alloc | apply pw_below_drewN | apply below_drew1) | exact HB.out))) : w.heap.size ≤ gb154)); have n6_ := Aside0.mk ((by rw [hg]; exact (below_size (by repeat (first | (with_reducible first | exact HB.out | apply below_alloc | apply pw_below_drewN | apply below_drew1) | exact HB.out))) : w.heap.size ≤ gb154)); clear HO145; clear HO150; clear HO153; clear HB; have HO145 := n0_; have HO150 := n1_; have HO153 := n2_; have HB := n3_; have BK154 := n4_; have GW154 := n5_; have GE154 := n6_; clear n0_ n1_ n2_ n3_ n4_ n5_ n6_; clear hb hbox hg; have hcz22_0 : w21.cell? ⟨gb154, 0, none⟩ = some (.int .i64 0) := (blk_cell BK154.out 0).trans rfl; have hcz22_1 : w21.cell? ⟨gb154, 1, none⟩ = some (.int .i64 0) := (blk_cell BK154.out 1).trans rfl; have hfz22_0 := blk_frozen BK154.out 0; have hfz22_1 := blk_frozen BK154.out 1) | ((with_reducible refine gate_callee (f := 8) rfl ?_); refine goesL_ (some 56) rfl rfl Try.func8 (by kernel_rfl) rfl #[.int .i64 (rd y143 (ji8))] rfl (by (try simp only [List.map_toArray, List.map_cons, List.map_nil]); first | done | (simp only [hji8]; rfl) | rfl | (simp only [List.length_drop, List.length_take]; rfl)) ?_; (with_reducible refine (csets_Wide.calls (rd y143 (ji8)) t155 _ A13.out).mono ?_); rintro e w' ⟨rfl, ⟨nd, rfl⟩⟩; refine ⟨_, rfl, ?_⟩))
            (try simp only [Act.put, List.setIfInBounds_toArray, List.set_cons_zero, List.set_cons_succ])
            go_cut [13] (fun v13 wc => ∃ (kq : Nat) (x13_13 : List Int) (x155001_13 : Int), Aside0 (sobriquetlaw17_ShiftSets.j0 kq (wrap64 (Int.tmod (IntKind.u64.wrap (a1)) 4)) a3 t147 x13_13 (rd y143 (ji8)) x155001_13 = some r) ∧ Aside0 (kq ≤ k) ∧ Aside0 (Kd.R (Kd.int .u8) 5 wc w.heap.size (fun k_ => some k_ ≠ (v13 : Value).ownBlock) v149 t147) ∧ Aside0 (Kd.R (Kd.int .u8) 5 wc w.heap.size (fun k_ => some k_ ≠ (v149 : Value).ownBlock) v13 x13_13) ∧ Aside0 (wc.heap[gb154]? = some (.cells #[.int .i64 (rd y143 (ji8)), .int .i64 x155001_13] 30 (0, 0))) ∧ Aside0 (Below w.heap.size w wc))
            case first =>
              have H := HC14.out
              clear HC14
              by_cases c23 : t155 = true
              · subst c23
                have H1 : (if y151.length < 140737488355328 then (sobriquetlaw17_ShiftSets.j0 k (wrap64 (Int.tmod (IntKind.u64.wrap (a1)) 4)) a3 t147 (y151 ++ [(wrap64 (33 + (wrap64 (Int.tmod (IntKind.u64.wrap (a2)) 94)))) % 256]) (rd y143 (ji8)) (wrap64 (257 * (wrap64 (33 + (wrap64 (Int.tmod (IntKind.u64.wrap (a2)) 94))))))) else (none)) = some r := by rw [if_pos rfl] at H; exact H
                clear H
                have H := H1
                clear H1
                by_cases c24 : y151.length < 140737488355328
                · rw [if_pos c24] at H
                  have LMc24 := Aside0.mk c24
                  clear c24
                  obtain ⟨y156, hy156⟩ : ∃ y_ : List Int, y_ = (y151 ++ [(wrap64 (33 + (wrap64 (Int.tmod (IntKind.u64.wrap (a2)) 94)))) % 256]) := ⟨_, rfl⟩
                  replace H : (sobriquetlaw17_ShiftSets.j0 k (wrap64 (Int.tmod (IntKind.u64.wrap (a1)) 4)) a3 t147 y156 (rd y143 (ji8)) (wrap64 (257 * (wrap64 (33 + (wrap64 (Int.tmod (IntKind.u64.wrap (a2)) 94))))))) = some r := by first | (rw [hy156]; with_reducible exact H) | (have H2_ := (Option.bind_some _ _).symm.trans H; rw [hy156]; with_reducible exact H2_) | (have H2_ := (Option.bind_some _ _).symm.trans H; with_reducible exact H2_) | with_reducible exact H | (rw [hy156]; exact H) | exact H
                  have Ny156 := Aside0.mk hy156
                  clear hy156
                  have H' := Aside0.mk H
                  clear H
                  go_wp2_with (first | ((with_reducible refine gate_builtin (b := .append) (xs := #[.tmp 57, .tmp 60]) rfl ?_); (try (refine gate_guard (by rfl) ?_; dsimp only)); at_builtin; refine Kd.R_append (Kd.int .u8) (w0 := w) w.heap.size rfl (.tmp 57) (.tmp 60) 25 5 (.int .u8 0) 1 rfl Try.underlying25 info5 rfl (by decide) (by omega) v152 y151 ((wrap64 (33 + (wrap64 (Int.tmod (IntKind.u64.wrap (a2)) 94)))) % 256) [.int .u8 ((wrap64 (33 + (wrap64 (Int.tmod (IntKind.u64.wrap (a2)) 94)))) % 256)] (fun k_ => some k_ ≠ (v149 : Value).ownBlock) (fun _ => False) rfl (by first | (go_simp; done) | (go_simp; rfl)) ?aP (fun _ hk => hk.elim) ?aF ?aO ?aB ?aS ?aL ?_; (case aP => exact rfl); (case aB => exact (by repeat (first | (with_reducible first | exact HB.out | apply below_alloc | apply pw_below_drewN | apply below_drew1 | refine below_set ?_ GE154.out) | exact HB.out))); (case aF => exact (fun k_ hk => Kd.fresh' (Kd.R_lt (by (with_reducible repeat (first | apply Kd.R_alloc | apply Kd.R_drewN | apply Kd.R_drew)); exact (Kd.R_mono (Kd.R_far (p := ⟨gb154, 1, none⟩) (Kd.R_far (p := ⟨gb154, 0, none⟩) (Kd.R_types HO150.out BK154.out (by decide)) (fun _ hk => hk.2) (.int .i64 (rd y143 (ji8)))) (fun _ hk => hk.2) (.int .i64 (wrap64 (33 + (wrap64 (Int.tmod (IntKind.u64.wrap (a2)) 94)))))) (fun _ h_ => h_.1)))) k_ hk)); (case aO => exact (by (with_reducible repeat (first | apply Kd.R_alloc | apply Kd.R_drewN | apply Kd.R_drew)); exact Kd.R_mono (Kd.R_far (p := ⟨gb154, 1, none⟩) (Kd.R_far (p := ⟨gb154, 0, none⟩) (Kd.R_types HO153.out BK154.out (by decide)) (fun _ hk => hk.2) (.int .i64 (rd y143 (ji8)))) (fun _ hk => hk.2) (.int .i64 (wrap64 (33 + (wrap64 (Int.tmod (IntKind.u64.wrap (a2)) 94)))))) (fun _ hk => hk.1.2))); (case aS => exact (below_size (by repeat (first | (with_reducible first | exact HB.out | apply below_alloc | apply pw_below_drewN | apply below_drew1 | refine below_set ?_ GE154.out) | exact HB.out)))); (case aL => have := LMc24.out; omega); intro v157 w25 ho hb hg hat; rw [← Ny156.out] at ho; have n0_ := Aside0.mk (Kd.R_over' (by (with_reducible repeat (first | apply Kd.R_alloc | apply Kd.R_drewN | apply Kd.R_drew)); exact (Kd.R_mono (Kd.R_far (p := ⟨gb154, 1, none⟩) (Kd.R_far (p := ⟨gb154, 0, none⟩) (Kd.R_types HO145.out BK154.out (by decide)) (fun _ hk => hk.2) (.int .i64 (rd y143 (ji8)))) (fun _ hk => hk.2) (.int .i64 (wrap64 (33 + (wrap64 (Int.tmod (IntKind.u64.wrap (a2)) 94)))))) (fun _ h_ => h_.1))) (Kd.R_typed (by (with_reducible repeat (first | apply Kd.R_alloc | apply Kd.R_drewN | apply Kd.R_drew)); exact (Kd.R_mono (Kd.R_far (p := ⟨gb154, 1, none⟩) (Kd.R_far (p := ⟨gb154, 0, none⟩) (Kd.R_types HO153.out BK154.out (by decide)) (fun _ hk => hk.2) (.int .i64 (rd y143 (ji8)))) (fun _ hk => hk.2) (.int .i64 (wrap64 (33 + (wrap64 (Int.tmod (IntKind.u64.wrap (a2)) 94)))))) (fun _ h_ => h_.1)))) (by decide) hg); have n1_ := Aside0.mk (Kd.R_after (ok := (fun _ => True)) (by (with_reducible repeat (first | apply Kd.R_alloc | apply Kd.R_drewN | apply Kd.R_drew)); exact Kd.R_mono (Kd.R_far (p := ⟨gb154, 1, none⟩) (Kd.R_far (p := ⟨gb154, 0, none⟩) (Kd.R_types HO150.out BK154.out (by decide)) (fun _ hk => hk.2) (.int .i64 (rd y143 (ji8)))) (fun _ hk => hk.2) (.int .i64 (wrap64 (33 + (wrap64 (Int.tmod (IntKind.u64.wrap (a2)) 94)))))) (fun _ hk => ⟨trivial, hk.1.2⟩)) hg hat); have n2_ := Aside0.mk (blk_grown (g := gb154) (o := .cells #[.int .i64 (rd y143 (ji8)), .int .i64 (wrap64 (33 + (wrap64 (Int.tmod (IntKind.u64.wrap (a2)) 94))))] 30 (0, 0)) (by (with_reducible repeat (first | refine blk_drewN ?_ _ | refine blk_drew ?_ | refine blk_alloc ?_ _)); refine blk_put (cs := #[.int .i64 (rd y143 (ji8)), .int .i64 0]) ?_ 1 _ rfl; (with_reducible repeat (first | refine blk_drewN ?_ _ | refine blk_drew ?_ | refine blk_alloc ?_ _)); refine blk_put (cs := #[.int .i64 0, .int .i64 0]) ?_ 0 _ rfl; (with_reducible repeat (first | refine blk_drewN ?_ _ | refine blk_drew ?_ | refine blk_alloc ?_ _)); exact BK154.out) hg (Kd.R_ne HO153.out BK154.out (by decide))); have n3_ := Aside0.mk (hb); have n4_ := Aside0.mk (ho); clear HO145; clear HO150; clear BK154; clear HB; clear HO153; have HO145 := n0_; have HO150 := n1_; have BK154 := n2_; have HB := n3_; have HO158 := n4_; clear n0_ n1_ n2_ n3_ n4_; clear ho hb hg hat; have hcz26_0 : w25.cell? ⟨gb154, 0, none⟩ = some (.int .i64 (rd y143 (ji8))) := (blk_cell BK154.out 0).trans rfl; have hcz26_1 : w25.cell? ⟨gb154, 1, none⟩ = some (.int .i64 (wrap64 (33 + (wrap64 (Int.tmod (IntKind.u64.wrap (a2)) 94))))) := (blk_cell BK154.out 1).trans rfl; have hfz26_0 := blk_frozen BK154.out 0; have hfz26_1 := blk_frozen BK154.out 1))
                  go_meet
                  case rel => exact ⟨_, (y156), (wrap64 (257 * (wrap64 (33 + (wrap64 (Int.tmod (IntKind.u64.wrap (a2)) 94)))))), H', ⟨by first | omega | exact Nat.le_refl _⟩, ⟨by (with_reducible repeat (first | apply Kd.R_alloc | apply Kd.R_drewN | apply Kd.R_drew)); exact Kd.R_mono (Kd.R_far (p := ⟨gb154, 1, none⟩) (Kd.R_types HO150.out BK154.out (by decide)) (fun _ hk => hk.2) (.int .i64 (wrap64 (257 * (wrap64 (33 + (wrap64 (Int.tmod (IntKind.u64.wrap (a2)) 94)))))))) (fun _ hk => hk.1.2)⟩, ⟨by (with_reducible repeat (first | apply Kd.R_alloc | apply Kd.R_drewN | apply Kd.R_drew)); exact Kd.R_mono (Kd.R_far (p := ⟨gb154, 1, none⟩) (Kd.R_types HO158.out BK154.out (by decide)) (fun _ hk => hk.2) (.int .i64 (wrap64 (257 * (wrap64 (33 + (wrap64 (Int.tmod (IntKind.u64.wrap (a2)) 94)))))))) (fun _ hk => hk.1)⟩, ⟨by (with_reducible repeat (first | refine blk_drewN ?_ _ | refine blk_drew ?_ | refine blk_alloc ?_ _)); refine blk_put (cs := #[.int .i64 (rd y143 (ji8)), .int .i64 (wrap64 (33 + (wrap64 (Int.tmod (IntKind.u64.wrap (a2)) 94))))]) ?_ 1 _ rfl; (with_reducible repeat (first | refine blk_drewN ?_ _ | refine blk_drew ?_ | refine blk_alloc ?_ _)); exact BK154.out⟩, ⟨by repeat (first | (with_reducible first | exact HB.out | apply below_alloc | apply pw_below_drewN | apply below_drew1 | refine below_set ?_ GE154.out) | exact HB.out)⟩⟩
                · rw [if_neg c24] at H
                  exact absurd H (by simp)
              · replace c23 := Bool.eq_false_iff.mpr c23
                subst c23
                have H1 : (sobriquetlaw17_ShiftSets.j0 k (wrap64 (Int.tmod (IntKind.u64.wrap (a1)) 4)) a3 t147 y151 (rd y143 (ji8)) (wrap64 (33 + (wrap64 (Int.tmod (IntKind.u64.wrap (a2)) 94))))) = some r := by rw [if_neg (show ¬ (false = true) by decide)] at H; exact H
                clear H
                have H := H1
                clear H1
                have H' := Aside0.mk H
                clear H
                go_wp2
                go_meet
                case rel => exact ⟨_, (y151), (wrap64 (33 + (wrap64 (Int.tmod (IntKind.u64.wrap (a2)) 94)))), H', ⟨by first | omega | exact Nat.le_refl _⟩, ⟨by (with_reducible repeat (first | apply Kd.R_alloc | apply Kd.R_drewN | apply Kd.R_drew)); exact Kd.R_mono (Kd.R_far (p := ⟨gb154, 1, none⟩) (Kd.R_far (p := ⟨gb154, 0, none⟩) (Kd.R_types HO150.out BK154.out (by decide)) (fun _ hk => hk.2) (.int .i64 (rd y143 (ji8)))) (fun _ hk => hk.2) (.int .i64 (wrap64 (33 + (wrap64 (Int.tmod (IntKind.u64.wrap (a2)) 94)))))) (fun _ hk => hk.1.2)⟩, ⟨by (with_reducible repeat (first | apply Kd.R_alloc | apply Kd.R_drewN | apply Kd.R_drew)); exact Kd.R_mono (Kd.R_far (p := ⟨gb154, 1, none⟩) (Kd.R_far (p := ⟨gb154, 0, none⟩) (Kd.R_types HO153.out BK154.out (by decide)) (fun _ hk => hk.2) (.int .i64 (rd y143 (ji8)))) (fun _ hk => hk.2) (.int .i64 (wrap64 (33 + (wrap64 (Int.tmod (IntKind.u64.wrap (a2)) 94)))))) (fun _ hk => hk.1.2)⟩, ⟨by (with_reducible repeat (first | refine blk_drewN ?_ _ | refine blk_drew ?_ | refine blk_alloc ?_ _)); refine blk_put (cs := #[.int .i64 (rd y143 (ji8)), .int .i64 0]) ?_ 1 _ rfl; (with_reducible repeat (first | refine blk_drewN ?_ _ | refine blk_drew ?_ | refine blk_alloc ?_ _)); refine blk_put (cs := #[.int .i64 0, .int .i64 0]) ?_ 0 _ rfl; (with_reducible repeat (first | refine blk_drewN ?_ _ | refine blk_drew ?_ | refine blk_alloc ?_ _)); exact BK154.out⟩, ⟨by repeat (first | (with_reducible first | exact HB.out | apply below_alloc | apply pw_below_drewN | apply below_drew1 | refine below_set ?_ GE154.out) | exact HB.out)⟩⟩
            case rest =>
              clear HC14
              try clear c1
              try clear p1
              try clear q1
              try clear hx1
              try clear c2
              try clear p2
              try clear c3
              try clear c6
              try clear p6
              try clear c7
              try clear c7b0
              try clear c7b1
              try clear c8
              try clear c9
              try clear c9b0
              try clear c10
              try clear c10b0
              try clear c12
              try clear c12b0
              try clear c12b1
              try clear p14
              try clear q14
              try clear hx14
              try clear c23
              try clear c24
              try clear hcz22_0
              try clear hcz22_1
              try clear hcz26_0
              try clear hcz26_1
              try clear hfz22_0
              try clear hfz22_1
              try clear hfz26_0
              try clear hfz26_1
              try clear hx146_0
              try clear p146
              try clear q146
              obtain ⟨kq, x13_13, x155001_13, HA, HJ13, HO_11, HO_13, BK154, HB⟩ := hcut
              cases kq with
              | zero => exact absurd HA.out (by simp [sobriquetlaw17_ShiftSets.j0])
              | succ kj13 =>
                have H := HA.out
                clear HA
                simp only [sobriquetlaw17_ShiftSets.j0] at H
                have HC27 := Aside0.mk H
                clear H
                go_upto_region 12 with (fail)
                go_cut [65] (fun v65 wc => ∃ (kq : Nat) (x65_26 : Bool), v65 = .bool x65_26 ∧ Aside0 (sobriquetlaw17_ShiftSets.j1 kq (wrap64 (Int.tmod (IntKind.u64.wrap (a1)) 4)) t147 x13_13 x65_26 (rd y143 (ji8)) x155001_13 = some r) ∧ Aside0 (kq ≤ kj13) ∧ Aside0 (Kd.R (Kd.int .u8) 5 wc w.heap.size (fun k_ => some k_ ≠ (u13 : Value).ownBlock) v149 t147) ∧ Aside0 (Kd.R (Kd.int .u8) 5 wc w.heap.size (fun k_ => some k_ ≠ (v149 : Value).ownBlock) u13 x13_13) ∧ Aside0 (wc.heap[gb154]? = some (.cells #[.int .i64 (rd y143 (ji8)), .int .i64 x155001_13] 30 (0, 0))) ∧ Aside0 (Below w.heap.size w wc))
                case first =>
                  have H := HC27.out
                  clear HC27
                  by_cases c28 : a3 = true
                  · subst c28
                    have H1 : (sobriquetlaw17_ShiftSets.j1 kj13 (wrap64 (Int.tmod (IntKind.u64.wrap (a1)) 4)) t147 x13_13 (decide ((wrap64 (Int.tmod (IntKind.u64.wrap (a1)) 4)) > 0)) (rd y143 (ji8)) x155001_13) = some r := by rw [if_pos rfl] at H; exact H
                    clear H
                    have H := H1
                    clear H1
                    have H' := Aside0.mk H
                    clear H
                    go_wp2
                    go_meet
                    case rel => exact ⟨_, (decide ((wrap64 (Int.tmod (IntKind.u64.wrap (a1)) 4)) > 0)), (by first | rfl | (simp; done) | (simp [*]; done)), H', ⟨by have := HJ13.out; first | omega | exact Nat.le_refl _⟩, ⟨by (with_reducible repeat (first | apply Kd.R_alloc | apply Kd.R_drewN | apply Kd.R_drew)); exact HO_11.out⟩, ⟨by (with_reducible repeat (first | apply Kd.R_alloc | apply Kd.R_drewN | apply Kd.R_drew)); exact HO_13.out⟩, ⟨by (with_reducible repeat (first | refine blk_drewN ?_ _ | refine blk_drew ?_ | refine blk_alloc ?_ _)); exact BK154.out⟩, ⟨by repeat (first | (with_reducible first | exact HB.out | apply below_alloc | apply pw_below_drewN | apply below_drew1 | refine below_set ?_ GE154.out) | exact HB.out)⟩⟩
                  · replace c28 := Bool.eq_false_iff.mpr c28
                    subst c28
                    have H1 : (sobriquetlaw17_ShiftSets.j1 kj13 (wrap64 (Int.tmod (IntKind.u64.wrap (a1)) 4)) t147 x13_13 false (rd y143 (ji8)) x155001_13) = some r := by rw [if_neg (show ¬ (false = true) by decide)] at H; exact H
                    clear H
                    have H := H1
                    clear H1
                    have H' := Aside0.mk H
                    clear H
                    go_wp2
                    go_meet
                    case rel => exact ⟨_, (false), (by first | rfl | (simp; done) | (simp [*]; done)), H', ⟨by have := HJ13.out; first | omega | exact Nat.le_refl _⟩, ⟨by (with_reducible repeat (first | apply Kd.R_alloc | apply Kd.R_drewN | apply Kd.R_drew)); exact HO_11.out⟩, ⟨by (with_reducible repeat (first | apply Kd.R_alloc | apply Kd.R_drewN | apply Kd.R_drew)); exact HO_13.out⟩, ⟨by (with_reducible repeat (first | refine blk_drewN ?_ _ | refine blk_drew ?_ | refine blk_alloc ?_ _)); exact BK154.out⟩, ⟨by repeat (first | (with_reducible first | exact HB.out | apply below_alloc | apply pw_below_drewN | apply below_drew1 | refine below_set ?_ GE154.out) | exact HB.out)⟩⟩
                case rest =>
                  clear HC27
                  try clear c1
                  try clear p1
                  try clear q1
                  try clear hx1
                  try clear c2
                  try clear p2
                  try clear c3
                  try clear c6
                  try clear p6
                  try clear c7
                  try clear c7b0
                  try clear c7b1
                  try clear c8
                  try clear c9
                  try clear c9b0
                  try clear c10
                  try clear c10b0
                  try clear c12
                  try clear c12b0
                  try clear c12b1
                  try clear p14
                  try clear q14
                  try clear hx14
                  try clear c23
                  try clear c24
                  try clear c28
                  try clear hcz22_0
                  try clear hcz22_1
                  try clear hcz26_0
                  try clear hcz26_1
                  try clear hfz22_0
                  try clear hfz22_1
                  try clear hfz26_0
                  try clear hfz26_1
                  try clear hx146_0
                  try clear p1
                  try clear p14
                  try clear p146
                  try clear p2
                  try clear p6
                  try clear q1
                  try clear q14
                  try clear q146
                  obtain ⟨kq, x65_26, rfl, HA, HJ26, HO_11, HO_13, BK154, HB⟩ := hcut
                  cases kq with
                  | zero => exact absurd HA.out (by simp [sobriquetlaw17_ShiftSets.j1])
                  | succ kj26 =>
                    have H := HA.out
                    clear HA
                    simp only [sobriquetlaw17_ShiftSets.j1] at H
                    by_cases c29 : x65_26 = true
                    · subst c29
                      have H1 : ((some (([27, (wrap64 (127 - (wrap64 (Int.tmod (IntKind.u64.wrap (a1)) 4)))) % 256] : List Int) : List Int)).bind fun y159 => (if t147.length + y159.length < 140737488355328 then (sobriquetlaw17_ShiftSets.l0 kj26 (t147 ++ y159) x13_13 0 (rd y143 (ji8)) x155001_13) else (none))) = some r := by rw [if_pos rfl] at H; exact H
                      clear H
                      have H := H1
                      clear H1
                      obtain ⟨y159, hy159⟩ : ∃ y_ : List Int, y_ = (([27, (wrap64 (127 - (wrap64 (Int.tmod (IntKind.u64.wrap (a1)) 4)))) % 256] : List Int)) := ⟨_, rfl⟩
                      replace H : (if t147.length + y159.length < 140737488355328 then (sobriquetlaw17_ShiftSets.l0 kj26 (t147 ++ y159) x13_13 0 (rd y143 (ji8)) x155001_13) else (none)) = some r := by first | (rw [hy159]; with_reducible exact H) | (have H2_ := (Option.bind_some _ _).symm.trans H; rw [hy159]; with_reducible exact H2_) | (have H2_ := (Option.bind_some _ _).symm.trans H; with_reducible exact H2_) | with_reducible exact H | (rw [hy159]; exact H) | exact H
                      have Ny159 := Aside0.mk hy159
                      clear hy159
                      by_cases c30 : t147.length + y159.length < 140737488355328
                      · rw [if_pos c30] at H
                        have LMc30 := Aside0.mk c30
                        clear c30
                        obtain ⟨y162, hy162⟩ : ∃ y_ : List Int, y_ = (t147 ++ y159) := ⟨_, rfl⟩
                        replace H : (sobriquetlaw17_ShiftSets.l0 kj26 y162 x13_13 0 (rd y143 (ji8)) x155001_13) = some r := by first | (rw [hy162]; with_reducible exact H) | (have H2_ := (Option.bind_some _ _).symm.trans H; rw [hy162]; with_reducible exact H2_) | (have H2_ := (Option.bind_some _ _).symm.trans H; with_reducible exact H2_) | with_reducible exact H | (rw [hy162]; exact H) | exact H
                        have Ny162 := Aside0.mk hy162
                        clear hy162
                        have H' := Aside0.mk H
                        clear H
                        go_wp2_with (first | ((with_reducible refine gate_dst (N := 75) rfl ?_); (try (refine gate_guard (by rfl) ?_; dsimp only)); refine Kd.R_lit (Kd.int .u8) _ 5 ?hg (N := 75) ?hd (xs := ([27, (wrap64 (127 - (wrap64 (Int.tmod (IntKind.u64.wrap (a1)) 4)))) % 256] : List Int)) (inner := [.int .u8 27, .int .u8 ((wrap64 (127 - (wrap64 (Int.tmod (IntKind.u64.wrap (a1)) 4)))) % 256)]) (ok := fun _ => True) (okp := fun _ => True) ?hr ?hp (fun _ hk => hk) trivial (Below.refl _ _) (Nat.le_refl _) (by simp) ?_; (case hd => rfl); (case hg => rfl); (case hr => first | (go_simp; done) | (go_simp; rfl)); (case hp => exact (Reps.one (show Kd.M (Kd.int .u8) _ _ _ 27 [.int .u8 27] from rfl) (Reps.one (show Kd.M (Kd.int .u8) _ _ _ ((wrap64 (127 - (wrap64 (Int.tmod (IntKind.u64.wrap (a1)) 4)))) % 256) [.int .u8 ((wrap64 (127 - (wrap64 (Int.tmod (IntKind.u64.wrap (a1)) 4)))) % 256)] from rfl) (Reps.none _ _)))); intro v160 w31 ho32 hb hg_ hnew_; clear hg_ hnew_; (first | rw [← Ny159.out] at ho32 | (simp only [Int.reduceToNat] at ho32; rw [← Ny159.out] at ho32)); have n0_ := Aside0.mk (Kd.R_elder' (by (with_reducible repeat (first | apply Kd.R_alloc | apply Kd.R_drewN | apply Kd.R_drew)); exact HO_11.out) (Kd.R_base ho32) hb); have n1_ := Aside0.mk (Kd.R_elder' (by (with_reducible repeat (first | apply Kd.R_alloc | apply Kd.R_drewN | apply Kd.R_drew)); exact HO_13.out) (Kd.R_base ho32) hb); have n2_ := Aside0.mk (Kd.R_lower (Kd.R_new' (Kd.R_new' ho32 (Kd.R_lt (by (with_reducible repeat (first | apply Kd.R_alloc | apply Kd.R_drewN | apply Kd.R_drew)); exact HO_11.out))) (Kd.R_lt (by (with_reducible repeat (first | apply Kd.R_alloc | apply Kd.R_drewN | apply Kd.R_drew)); exact HO_13.out))) (below_size (by repeat (first | (with_reducible first | exact HB.out | apply below_alloc | apply pw_below_drewN | apply below_drew1 | refine below_set ?_ GE154.out) | exact HB.out)))); have n3_ := Aside0.mk (blk_below (g := gb154) (o := .cells #[.int .i64 (rd y143 (ji8)), .int .i64 x155001_13] 30 (0, 0)) (by (with_reducible repeat (first | refine blk_drewN ?_ _ | refine blk_drew ?_ | refine blk_alloc ?_ _)); exact BK154.out) hb); have n4_ := Aside0.mk (below_step (by repeat (first | (with_reducible first | exact HB.out | apply below_alloc | apply pw_below_drewN | apply below_drew1 | refine below_set ?_ GE154.out) | exact HB.out)) hb); clear HO_11; clear HO_13; clear BK154; clear HB; have HO_11 := n0_; have HO_13 := n1_; have HO161 := n2_; have BK154 := n3_; have HB := n4_; clear n0_ n1_ n2_ n3_ n4_; clear hb ho32; obtain ⟨Ao34, co34, eo34⟩ := Kd.R_slice HO161.out; subst eo34) | ((with_reducible refine gate_builtin (b := .append) (xs := #[.tmp 71, .tmp 75]) rfl ?_); (try (refine gate_guard (by rfl) ?_; dsimp only)); at_builtin; refine Kd.R_append_rows (Kd.int .u8) (w0 := w) w.heap.size rfl (.tmp 71) (.tmp 75) 25 5 (.int .u8 0) 1 rfl Try.underlying25 info5 rfl (by decide) (by omega) v149 t147 y159 _ _ _ (fun k_ => some k_ ≠ (u13 : Value).ownBlock ∧ some k_ ≠ (.slice Ao34 y159.length co34 : Value).ownBlock) (fun _ => False) rfl rfl ?aO ?aR (fun _ _ h => h) (fun _ h => h.elim) ?aF ?aB ?aS ?aL ?_; (case aR => repeat (first | exact (Kd.R_reads' HO161.out).2.2 | (with_reducible refine Kd.C_alloc ?_ _) | (with_reducible refine Kd.C_drewN ?_ _) | (with_reducible refine Kd.C_drew ?_))); (case aB => exact (by repeat (first | (with_reducible first | exact HB.out | apply below_alloc | apply pw_below_drewN | apply below_drew1 | refine below_set ?_ GE154.out) | exact HB.out))); (case aF => exact (fun k_ hk => ⟨Kd.fresh' (Kd.R_lt (by (with_reducible repeat (first | apply Kd.R_alloc | apply Kd.R_drewN | apply Kd.R_drew)); exact HO_13.out)) k_ hk, Kd.fresh' (Kd.R_lt (by (with_reducible repeat (first | apply Kd.R_alloc | apply Kd.R_drewN | apply Kd.R_drew)); exact HO161.out)) k_ hk⟩)); (case aO => exact (by (with_reducible repeat (first | apply Kd.R_alloc | apply Kd.R_drewN | apply Kd.R_drew)); exact HO_11.out)); (case aS => exact (below_size (by repeat (first | (with_reducible first | exact HB.out | apply below_alloc | apply pw_below_drewN | apply below_drew1 | refine below_set ?_ GE154.out) | exact HB.out)))); (case aL => have := LMc30.out; omega); intro v163 w33 ho hb hg hat; rw [← Ny162.out] at ho; have n0_ := Aside0.mk (Kd.R_after (ok := (fun k_ => some k_ ≠ (.slice Ao34 y159.length co34 : Value).ownBlock)) (by (with_reducible repeat (first | apply Kd.R_alloc | apply Kd.R_drewN | apply Kd.R_drew)); exact Kd.R_mono HO_13.out (fun _ hk => ⟨hk.2, hk.1⟩)) hg hat); have n1_ := Aside0.mk (blk_grown (g := gb154) (o := .cells #[.int .i64 (rd y143 (ji8)), .int .i64 x155001_13] 30 (0, 0)) (by (with_reducible repeat (first | refine blk_drewN ?_ _ | refine blk_drew ?_ | refine blk_alloc ?_ _)); exact BK154.out) hg (Kd.R_ne HO_11.out BK154.out (by decide))); have n2_ := Aside0.mk (Kd.R_after (ok := (fun k_ => some k_ ≠ (u13 : Value).ownBlock)) (by (with_reducible repeat (first | apply Kd.R_alloc | apply Kd.R_drewN | apply Kd.R_drew)); exact Kd.R_mono HO161.out (fun _ hk => ⟨hk.2, hk.1.2⟩)) hg hat); have n3_ := Aside0.mk (hb); have n4_ := Aside0.mk (ho); clear HO_13; clear BK154; clear HO161; clear HB; clear HO_11; have HO_13 := n0_; have BK154 := n1_; have HO161 := n2_; have HB := n3_; have HO164 := n4_; clear n0_ n1_ n2_ n3_ n4_; clear ho hb hg hat))
                        go_loopg [15] kj26 (fun kq v15 w' => ∃ (x13_3 : List Int) (x15_3 : Int), v15 = .int .i64 x15_3 ∧ Aside0 (sobriquetlaw17_ShiftSets.l0 kq y162 x13_3 x15_3 (rd y143 (ji8)) x155001_13 = some r) ∧ Aside0 (kq ≤ kj26) ∧ Aside0 (Kd.R (Kd.int .u8) 5 w' w.heap.size (fun k_ => some k_ ≠ (u13 : Value).ownBlock) v163 y162) ∧ Aside0 (Kd.R (Kd.int .u8) 5 w' w.heap.size (fun k_ => some k_ ≠ (v163 : Value).ownBlock) u13 x13_3) ∧ Aside0 (w'.heap[gb154]? = some (.cells #[.int .i64 (rd y143 (ji8)), .int .i64 x155001_13] 30 (0, 0))) ∧ Aside0 (Below w.heap.size w w'))
                        case atStart => exact ⟨(x13_13), (0), (by first | rfl | (simp; done) | (simp [*]; done)), H', ⟨Nat.le_refl _⟩, ⟨by (with_reducible repeat (first | apply Kd.R_alloc | apply Kd.R_drewN | apply Kd.R_drew)); exact Kd.R_mono HO164.out (fun _ hk => hk.1)⟩, ⟨by (with_reducible repeat (first | apply Kd.R_alloc | apply Kd.R_drewN | apply Kd.R_drew)); exact Kd.R_mono HO_13.out (fun _ hk => hk.2)⟩, ⟨by (with_reducible repeat (first | refine blk_drewN ?_ _ | refine blk_drew ?_ | refine blk_alloc ?_ _)); exact BK154.out⟩, ⟨by repeat (first | (with_reducible first | exact HB.out | apply below_alloc | apply pw_below_drewN | apply below_drew1 | refine below_set ?_ GE154.out) | exact HB.out)⟩⟩
                        case round =>
                          clear H'
                          try clear c1
                          try clear p1
                          try clear q1
                          try clear hx1
                          try clear c2
                          try clear p2
                          try clear c3
                          try clear c6
                          try clear p6
                          try clear c7
                          try clear c7b0
                          try clear c7b1
                          try clear c8
                          try clear c9
                          try clear c9b0
                          try clear c10
                          try clear c10b0
                          try clear c12
                          try clear c12b0
                          try clear c12b1
                          try clear p14
                          try clear q14
                          try clear hx14
                          try clear c23
                          try clear c24
                          try clear c28
                          try clear c29
                          try clear c30
                          try clear hcz22_0
                          try clear hcz22_1
                          try clear hcz26_0
                          try clear hcz26_1
                          try clear hfz22_0
                          try clear hfz22_1
                          try clear hfz26_0
                          try clear hfz26_1
                          try clear hx146_0
                          try clear p1
                          try clear p14
                          try clear p146
                          try clear p2
                          try clear p6
                          try clear q1
                          try clear q14
                          try clear q146
                          obtain ⟨x13_3, x15_3, rfl, HA, HK3, HO_11, HO_13, BK154, HB⟩ := hrel
                          cases gk with
                          | zero => exact absurd HA.out (by simp [sobriquetlaw17_ShiftSets.l0])
                          | succ k3 =>
                            have H := HA.out
                            clear HA
                            simp only [sobriquetlaw17_ShiftSets.l0] at H
                            by_cases c35 : x15_3 < (x13_3.length : Int)
                            · rw [if_pos c35] at H
                              have c35b0 : decide (x15_3 < (x13_3.length : Int)) = true := decide_eq_true c35
                              clear c35
                              by_cases c36 : 0 ≤ x15_3
                              · rw [if_pos c36] at H
                                have c36b0 : decide (0 ≤ x15_3) = true := decide_eq_true c36
                                clear c36
                                obtain ⟨y166, hy166⟩ : ∃ y_ : List Int, y_ = (x13_3.set (x15_3 : Int).toNat (((rd x13_3 x15_3) + 128) % 256)) := ⟨_, rfl⟩
                                replace H : (sobriquetlaw17_ShiftSets.l0 k3 y162 y166 (wrap64 (x15_3 + 1)) (rd y143 (ji8)) x155001_13) = some r := by first | (rw [hy166]; with_reducible exact H) | (have H2_ := (Option.bind_some _ _).symm.trans H; rw [hy166]; with_reducible exact H2_) | (have H2_ := (Option.bind_some _ _).symm.trans H; with_reducible exact H2_) | with_reducible exact H | (rw [hy166]; exact H) | exact H
                                have Ny166 := Aside0.mk hy166
                                clear hy166
                                have H' := Aside0.mk H
                                clear H
                                obtain ⟨Ao38, co38, eo38⟩ := Kd.R_slice HO_13.out
                                subst eo38
                                have p165 : 0 ≤ (x15_3 : Int) := of_decide_eq_true (by first | (with_reducible assumption) | assumption)
                                have q165 : x15_3 < (x13_3.length : Int) := of_decide_eq_true (by first | (with_reducible assumption) | assumption)
                                obtain ⟨ad165, e165, hx165_0⟩ := Kd.at_int (Kd.R_reads' HO_13.out).2.2 x15_3 p165 q165
                                cases e165
                                replace p165 := eq_true p165
                                replace q165 := eq_true q165
                                have p37 : 0 ≤ (x15_3 : Int) := of_decide_eq_true (by first | (with_reducible assumption) | assumption)
                                have q37 : (x15_3 : Int) < ((x13_3.length : Int) : Int) := of_decide_eq_true (by first | (with_reducible assumption) | assumption)
                                obtain ⟨go37, co37, eo37, gb37, gl37, cl37, HG37⟩ := Kd.R_form HO_13.out (by omega)
                                (first | cases eo37 | (injection eo37 with ea_ en_ ec_; (first | subst ea_ | (injection ea_ with ea_; subst ea_)); subst ec_; clear en_))
                                have GB37 := Aside0.mk gb37
                                have GG37 := Aside0.mk HG37
                                clear gb37 gl37 HG37
                                (first | simp only [add_plain] at hx165_0 | skip)
                                obtain ⟨hx37_0, hf37_0⟩ := Kd.R_celln 0 HO_13.out (x15_3 : Int) p37 q37
                                replace p37 := eq_true p37
                                replace q37 := eq_true q37
                                have HP39 := Kd.R_putg HO_13.out (x15_3 : Int) (((rd x13_3 x15_3) + 128) % 256)
                                go_wp2_with (first | ((with_reducible refine gate_store (t := 5) (p := 90) rfl ?_); refine store_event (t := 5) (p := 90) (v := ?vo_w40) (w1 := (wr.setCell ⟨go37, (x15_3 : Int).toNat, none⟩ (.int .u8 (((rd x13_3 x15_3) + 128) % 256)))) ?hg ?ho ?hn ?hr ?_; (case ho => rfl); (case hg => rfl); (case hn => rfl); (case hr => first | (go_simp; done) | (go_simp; rfl)); intro w40 hw; have hg : wr.grownBy w40 (some go37) := (by rw [hw]; exact HP39.2); have hp_ : Kd.R (Kd.int .u8) 5 w40 w.heap.size (fun k_ => some k_ ≠ (v163 : Value).ownBlock) (.slice (some ⟨go37, 0, none⟩) x13_3.length co38) y166 := (by rw [hw, Ny166.out]; exact HP39.1); clear HP39; have n0_ := Aside0.mk (Kd.R_after (v := (.slice (some ⟨go37, 0, none⟩) x13_3.length co38)) (v1 := (.slice (some ⟨go37, 0, none⟩) x13_3.length co38)) (ok := (fun _ => True)) (by (with_reducible repeat (first | apply Kd.R_alloc | apply Kd.R_drewN | apply Kd.R_drew)); exact Kd.R_mono HO_11.out (fun _ hk => ⟨trivial, hk⟩)) hg (.inl rfl)); have n1_ := Aside0.mk (hp_); have n2_ := Aside0.mk (blk_grown (g := gb154) (o := .cells #[.int .i64 (rd y143 (ji8)), .int .i64 x155001_13] 30 (0, 0)) (by (with_reducible repeat (first | refine blk_drewN ?_ _ | refine blk_drew ?_ | refine blk_alloc ?_ _)); exact BK154.out) hg (Kd.R_ne HO_13.out BK154.out (by decide))); have n3_ := Aside0.mk ((by rw [hw]; exact below_set (HB.out) GB37.out : Below w.heap.size w w40)); clear HO_11; clear HO_13; clear BK154; clear HB; have HO_11 := n0_; have HO_13 := n1_; have BK154 := n2_; have HB := n3_; clear n0_ n1_ n2_ n3_; clear hg hw hp_))
                                go_roundg k3
                                case measure => have := HJ13.out; have := HJ26.out; have := HK3.out; omega
                                case rel => exact ⟨(y166), (wrap64 (x15_3 + 1)), (by first | rfl | (simp; done) | (simp [*]; done)), H', ⟨by have := HJ13.out; have := HJ26.out; have := HK3.out; omega⟩, ⟨by (with_reducible repeat (first | apply Kd.R_alloc | apply Kd.R_drewN | apply Kd.R_drew)); exact Kd.R_mono HO_11.out (fun _ hk => hk.2)⟩, ⟨by (with_reducible repeat (first | apply Kd.R_alloc | apply Kd.R_drewN | apply Kd.R_drew)); exact HO_13.out⟩, ⟨by (with_reducible repeat (first | refine blk_drewN ?_ _ | refine blk_drew ?_ | refine blk_alloc ?_ _)); exact BK154.out⟩, ⟨by repeat (first | (with_reducible first | exact HB.out | apply below_alloc | apply pw_below_drewN | apply below_drew1 | refine below_set ?_ GE154.out) | exact HB.out)⟩⟩
                              · rw [if_neg c36] at H
                                exact absurd H (by simp)
                            · rw [if_neg c35] at H
                              have c35b0 : decide (x15_3 < (x13_3.length : Int)) = false := decide_eq_false c35
                              clear c35
                              by_cases c41 : y162.length + x13_3.length < 140737488355328
                              · rw [if_pos c41] at H
                                have LMc41 := Aside0.mk c41
                                clear c41
                                obtain ⟨y167, hy167⟩ : ∃ y_ : List Int, y_ = (y162 ++ x13_3) := ⟨_, rfl⟩
                                replace H : ((shift_Tokens.f y167).bind fun bt170 => (if bt170.2.2 = 0 then (if (bt170.1.length : Int) = 1 then (if 0 < (bt170.1.length : Int) then (if (((rd_T30 bt170.1 0).f0) == (rd y143 (ji8)) && (((rd_T30 bt170.1 0).f1) == x155001_13)) = true then ((sobriquetlaw17_wakes.f k3).bind fun t176 => (some t176)) else (some false)) else (none)) else (some false)) else (some false))) = some r := by first | (rw [hy167]; with_reducible exact H) | (have H2_ := (Option.bind_some _ _).symm.trans H; rw [hy167]; with_reducible exact H2_) | (have H2_ := (Option.bind_some _ _).symm.trans H; with_reducible exact H2_) | with_reducible exact H | (rw [hy167]; exact H) | exact H
                                have Ny167 := Aside0.mk hy167
                                clear hy167
                                replace H := Option.bind_eq_some_iff.mp H
                                obtain ⟨⟨t170, t171, t172⟩, A420, H⟩ := H
                                replace H : (if t172 = 0 then (if (t170.length : Int) = 1 then (if 0 < (t170.length : Int) then (if (((rd_T30 t170 0).f0) == (rd y143 (ji8)) && (((rd_T30 t170 0).f1) == x155001_13)) = true then ((sobriquetlaw17_wakes.f k3).bind fun t176 => (some t176)) else (some false)) else (none)) else (some false)) else (some false)) = some r := H
                                have A42 := Aside0.mk A420
                                clear A420
                                by_cases c43 : t172 = 0
                                · rw [if_pos c43] at H
                                  have c43b0 : (t172 == 0) = true := beq_iff_eq.mpr c43
                                  have c43b1 : (t172 != 0) = false := bne_eq_false_iff_eq.mpr c43
                                  clear c43
                                  by_cases c44 : (t170.length : Int) = 1
                                  · rw [if_pos c44] at H
                                    have c44b0 : ((t170.length : Int) == 1) = true := beq_iff_eq.mpr c44
                                    have c44b1 : ((t170.length : Int) != 1) = false := bne_eq_false_iff_eq.mpr c44
                                    clear c44
                                    by_cases c45 : 0 < (t170.length : Int)
                                    · rw [if_pos c45] at H
                                      have c45b0 : decide (0 < (t170.length : Int)) = true := decide_eq_true c45
                                      have c45b1 : decide (0 < t170.length) = true := decide_eq_true (by omega)
                                      clear c45
                                      by_cases c46 : (((rd_T30 t170 0).f0) == (rd y143 (ji8)) && (((rd_T30 t170 0).f1) == x155001_13)) = true
                                      · rw [if_pos c46] at H
                                        have c46b0 : (((rd_T30 t170 0).f0) == (rd y143 (ji8)) && (((rd_T30 t170 0).f1) == x155001_13)) = true := c46
                                        (try (have c46b1 : decide (((rd_T30 t170 0).f0) = (rd y143 (ji8)) && (((rd_T30 t170 0).f1) == x155001_13)) = true := by simpa using c46))
                                        (try (have c46b2 : (((rd_T30 t170 0).f0) == (rd y143 (ji8)) && (((rd_T30 t170 0).f1) == x155001_13)) = true := by simpa using c46))
                                        clear c46
                                        replace H := Option.bind_eq_some_iff.mp H
                                        obtain ⟨t176, A470, H⟩ := H
                                        replace H : (some t176) = some r := H
                                        have A47 := Aside0.mk A470
                                        clear A470
                                        obtain rfl := Option.some.inj H
                                        obtain ⟨Ao48, co48, eo48⟩ := Kd.R_slice HO_13.out
                                        subst eo48
                                        try go_wp2_with (first | ((with_reducible refine gate_builtin (b := .append) (xs := #[.tmp 110, .tmp 111]) rfl ?_); (try (refine gate_guard (by rfl) ?_; dsimp only)); at_builtin; refine Kd.R_append_rows (Kd.int .u8) (w0 := w) w.heap.size rfl (.tmp 110) (.tmp 111) 25 5 (.int .u8 0) 1 rfl Try.underlying25 info5 rfl (by decide) (by omega) v163 y162 x13_3 _ _ _ (fun k_ => some k_ ≠ (.slice Ao48 x13_3.length co48 : Value).ownBlock) (fun _ => False) rfl rfl ?aO ?aR (fun _ _ h => h) (fun _ h => h.elim) ?aF ?aB ?aS ?aL ?_; (case aR => repeat (first | exact (Kd.R_reads' HO_13.out).2.2 | (with_reducible refine Kd.C_alloc ?_ _) | (with_reducible refine Kd.C_drewN ?_ _) | (with_reducible refine Kd.C_drew ?_))); (case aB => exact (by repeat (first | (with_reducible first | exact HB.out | apply below_alloc | apply pw_below_drewN | apply below_drew1 | refine below_set ?_ GE154.out) | exact HB.out))); (case aF => exact (fun k_ hk => Kd.fresh' (Kd.R_lt (by (with_reducible repeat (first | apply Kd.R_alloc | apply Kd.R_drewN | apply Kd.R_drew)); exact HO_13.out)) k_ hk)); (case aO => exact (by (with_reducible repeat (first | apply Kd.R_alloc | apply Kd.R_drewN | apply Kd.R_drew)); exact HO_11.out)); (case aS => exact (below_size (by repeat (first | (with_reducible first | exact HB.out | apply below_alloc | apply pw_below_drewN | apply below_drew1 | refine below_set ?_ GE154.out) | exact HB.out)))); (case aL => have := LMc41.out; omega); intro v168 w49 ho hb hg hat; rw [← Ny167.out] at ho; have n0_ := Aside0.mk (Kd.R_after (ok := (fun _ => True)) (by (with_reducible repeat (first | apply Kd.R_alloc | apply Kd.R_drewN | apply Kd.R_drew)); exact Kd.R_mono HO_13.out (fun _ hk => ⟨trivial, hk⟩)) hg hat); have n1_ := Aside0.mk (blk_grown (g := gb154) (o := .cells #[.int .i64 (rd y143 (ji8)), .int .i64 x155001_13] 30 (0, 0)) (by (with_reducible repeat (first | refine blk_drewN ?_ _ | refine blk_drew ?_ | refine blk_alloc ?_ _)); exact BK154.out) hg (Kd.R_ne HO_11.out BK154.out (by decide))); have n2_ := Aside0.mk (hb); have n3_ := Aside0.mk (ho); clear HO_13; clear BK154; clear HB; clear HO_11; have HO_13 := n0_; have BK154 := n1_; have HB := n2_; have HO169 := n3_; clear n0_ n1_ n2_ n3_; clear ho hb hg hat; obtain ⟨Ao50, co50, eo50⟩ := Kd.R_slice HO169.out; subst eo50) | ((with_reducible refine gate_callee (f := 9) rfl ?_); refine goesL_ (some 113) rfl rfl Try.func9 (by kernel_rfl) rfl #[.slice Ao50 y167.length co50] rfl (by (try simp only [List.map_toArray, List.map_cons, List.map_nil]); first | done | rfl | (simp only [List.length_drop, List.length_take]; rfl)) ?_; (with_reducible refine (shift_Tokens.calls _ _ y167 t170 t171 t172 _ ?side1 ?side2 A42.out).mono ?_); (case side1 => repeat (first | exact (Kd.R_reads' HO169.out).2.2 | (with_reducible refine Kd.C_alloc ?_ _) | (with_reducible refine Kd.C_drewN ?_ _) | (with_reducible refine Kd.C_drew ?_))); (case side2 => exact (Kd.R_reads' HO169.out).2.1); rintro e w51 ⟨v173, rfl, ho0, hb⟩; refine ⟨_, rfl, ?_⟩; have n0_ := Aside0.mk (Kd.R_below (by (with_reducible repeat (first | apply Kd.R_alloc | apply Kd.R_drewN | apply Kd.R_drew)); exact HO_13.out) hb); have n1_ := Aside0.mk (Kd.R_below (by (with_reducible repeat (first | apply Kd.R_alloc | apply Kd.R_drewN | apply Kd.R_drew)); exact HO169.out) hb); have n2_ := Aside0.mk (Kd.R_lower (Kd.R_newB ho0 (g := gb154) (o := .cells #[.int .i64 (rd y143 (ji8)), .int .i64 x155001_13] 30 (0, 0)) (by (with_reducible repeat (first | refine blk_drewN ?_ _ | refine blk_drew ?_ | refine blk_alloc ?_ _)); exact BK154.out)) (below_size (by repeat (first | (with_reducible first | exact HB.out | apply below_alloc | apply pw_below_drewN | apply below_drew1 | refine below_set ?_ GE154.out) | exact HB.out)))); have n3_ := Aside0.mk (blk_below (g := gb154) (o := .cells #[.int .i64 (rd y143 (ji8)), .int .i64 x155001_13] 30 (0, 0)) (by (with_reducible repeat (first | refine blk_drewN ?_ _ | refine blk_drew ?_ | refine blk_alloc ?_ _)); exact BK154.out) hb); have n4_ := Aside0.mk (below_step (by repeat (first | (with_reducible first | exact HB.out | apply below_alloc | apply pw_below_drewN | apply below_drew1 | refine below_set ?_ GE154.out) | exact HB.out)) hb); clear HO_13; clear HO169; clear BK154; clear HB; have HO_13 := n0_; have HO169 := n1_; have HO174 := n2_; have BK154 := n3_; have HB := n4_; clear n0_ n1_ n2_ n3_ n4_; (try clear hb); (try clear hb2); (try clear hk); (try clear hi); (try clear ho0)))
                                        have n0_ := Aside0.mk (Kd.R_drew HO_13.out)
                                        have n1_ := Aside0.mk (Kd.R_drew HO169.out)
                                        have n2_ := Aside0.mk (Kd.R_drew HO174.out)
                                        have n3_ := Aside0.mk (blk_drew BK154.out)
                                        have n4_ := Aside0.mk (below_drew1 HB.out)
                                        clear HO_13
                                        clear HO169
                                        clear HO174
                                        clear BK154
                                        clear HB
                                        have HO_13 := n0_
                                        have HO169 := n1_
                                        have HO174 := n2_
                                        have BK154 := n3_
                                        have HB := n4_
                                        clear n0_ n1_ n2_ n3_ n4_
                                        obtain ⟨Ao53, co53, eo53⟩ := Kd.R_slice HO174.out
                                        (first | subst eo53 | (injection eo53 with f1_ f2_ f3_; have f4_ := f1_.symm; have f5_ := f3_.symm; clear f1_ f2_ f3_; subst f4_; subst f5_))
                                        have p175 : 0 ≤ (0 : Int) := (by omega)
                                        have q175 : 0 < (t170.length : Int) := of_decide_eq_true (by first | (with_reducible assumption) | assumption)
                                        obtain ⟨ad175, e175, hx175_0, hx175_1⟩ := at_T30 (Kd.R_reads' HO174.out).2.2 0 p175 q175
                                        cases e175
                                        have qi175 : (0 < t170.length) = True := eq_true (by omega)
                                        (try rw [show ((0 : Int)).toNat = 0 from rfl] at hx175_0)
                                        (try rw [show 0 * 2 = 0 from rfl] at hx175_0)
                                        (try rw [Addr.add_zero'] at hx175_0)
                                        (try rw [show ((0 : Int)).toNat = 0 from rfl] at hx175_1)
                                        (try rw [show 0 * 2 = 0 from rfl] at hx175_1)
                                        (try rw [Addr.add_zero'] at hx175_1)
                                        replace p175 := eq_true p175
                                        replace q175 := eq_true q175
                                        refine start_ (n := 18) (S := fun w' => w'.cell? ⟨gb154, 0, none⟩ = some (.int .i64 (rd y143 (ji8))) ∧ w'.cell? ⟨gb154, 1, none⟩ = some (.int .i64 x155001_13) ∧ w'.cell? ad175 = some (.int .i64 ((rd_T30 t170 0).f0)) ∧ w'.cell? ⟨ad175.block, ad175.off + 1, none⟩ = some (.int .i64 ((rd_T30 t170 0).f1))) (ds := []) #[false, false, false, false, false, false, false, false, false, false, false, false, false, false, false, false, false, false] (by kernel_rfl) rfl rfl ⟨(blk_cell BK154.out 0).trans rfl, (blk_cell BK154.out 1).trans rfl, hx175_0, hx175_1⟩ (fun hHeld => ?_); refine with_tabW sobriquetlaw17_ShiftSets.tab25 sobriquetlaw17_ShiftSets.bits25 (fun HT_ HW_ => ?_)
                                        generalize w51.drew = w52 at HO_13 HO169 HO174 BK154 HB hx175_0 hx175_1 hHeld ⊢
                                        refine pure_ (i := 0) (N := some 117) (v := ?_) (a' := ?_) #[true, false, false, false, false, false, false, false, false, false, false, false, false, false, false, false, false, false] rfl rfl (any_of HT_.out (by kernel_rfl)) (fun _ _ _ h => h) (Or.inl ⟨by rfl, ?_⟩) ?_ ?_
                                        rotate_left
                                        · intro w'
                                          go_simp
                                          with_reducible rfl
                                        rotate_left
                                        · simp only [Act.put, List.setIfInBounds_toArray, List.set_cons_zero, List.set_cons_succ, i64_w, i32_w]
                                          rfl
                                        refine pure_ (i := 1) (N := some 118) (v := ?_) (a' := ?_) #[true, true, false, false, false, false, false, false, false, false, false, false, false, false, false, false, false, false] rfl rfl (any_of HT_.out (by kernel_rfl)) (fun _ _ _ h => h) (Or.inl ⟨by rfl, ?_⟩) ?_ ?_
                                        rotate_left
                                        · intro w'
                                          go_simp
                                          with_reducible rfl
                                        rotate_left
                                        · simp only [Act.put, List.setIfInBounds_toArray, List.set_cons_zero, List.set_cons_succ, i64_w, i32_w]
                                          rfl
                                        refine pure_ (i := 2) (N := some 119) (v := ?_) (a' := ?_) #[true, true, true, false, false, false, false, false, false, false, false, false, false, false, false, false, false, false] rfl rfl (any_of HT_.out (by kernel_rfl)) (fun _ _ _ h => h) (Or.inl ⟨by rfl, ?_⟩) ?_ ?_
                                        rotate_left
                                        · intro w'
                                          go_simp
                                          with_reducible rfl
                                        rotate_left
                                        · simp only [Act.put, List.setIfInBounds_toArray, List.set_cons_zero, List.set_cons_succ, i64_w, i32_w]
                                          rfl
                                        refine pure_ (i := 3) (N := some 120) (v := ?_) (a' := ?_) #[true, true, true, true, false, false, false, false, false, false, false, false, false, false, false, false, false, false] rfl rfl (any_of HT_.out (by kernel_rfl)) (fun _ _ _ h => h) (Or.inl ⟨by rfl, ?_⟩) ?_ ?_
                                        rotate_left
                                        · intro w'
                                          go_simp
                                          with_reducible rfl
                                        rotate_left
                                        · simp only [Act.put, List.setIfInBounds_toArray, List.set_cons_zero, List.set_cons_succ, i64_w, i32_w]
                                          rfl
                                        refine pure_ (i := 4) (N := some 121) (v := ?_) (a' := ?_) #[true, true, true, true, true, false, false, false, false, false, false, false, false, false, false, false, false, false] rfl rfl (any_of HT_.out (by kernel_rfl)) (fun _ _ _ h => h) (Or.inl ⟨by rfl, ?_⟩) ?_ ?_
                                        rotate_left
                                        · intro w'
                                          go_simp
                                          with_reducible rfl
                                        rotate_left
                                        · simp only [Act.put, List.setIfInBounds_toArray, List.set_cons_zero, List.set_cons_succ, i64_w, i32_w]
                                          rfl
                                        refine pure_ (i := 5) (N := some 122) (v := ?_) (a' := ?_) #[true, true, true, true, true, true, false, false, false, false, false, false, false, false, false, false, false, false] rfl rfl (any_of HT_.out (by kernel_rfl)) (fun _ _ _ h => h) (Or.inl ⟨by rfl, ?_⟩) ?_ ?_
                                        rotate_left
                                        · intro w'
                                          go_simp
                                          with_reducible rfl
                                        rotate_left
                                        · simp only [Act.put, List.setIfInBounds_toArray, List.set_cons_zero, List.set_cons_succ, i64_w, i32_w]
                                          rfl
                                        refine pure_ (i := 6) (N := some 123) (v := ?_) (a' := ?_) #[true, true, true, true, true, true, true, false, false, false, false, false, false, false, false, false, false, false] rfl rfl (any_of HT_.out (by kernel_rfl)) (fun _ _ _ h => h) (Or.inl ⟨by rfl, ?_⟩) ?_ ?_
                                        rotate_left
                                        · intro w'
                                          go_simp
                                          with_reducible rfl
                                        rotate_left
                                        · simp only [Act.put, List.setIfInBounds_toArray, List.set_cons_zero, List.set_cons_succ, i64_w, i32_w]
                                          rfl
                                        refine pure_ (i := 7) (N := some 124) (v := ?_) (a' := ?_) #[true, true, true, true, true, true, true, true, false, false, false, false, false, false, false, false, false, false] rfl rfl (any_of HT_.out (by kernel_rfl)) (fun _ _ _ h => h) (Or.inl ⟨by rfl, ?_⟩) ?_ ?_
                                        rotate_left
                                        · intro w'
                                          go_simp
                                          with_reducible rfl
                                        rotate_left
                                        · simp only [Act.put, List.setIfInBounds_toArray, List.set_cons_zero, List.set_cons_succ, i64_w, i32_w]
                                          rfl
                                        refine pure_ (i := 8) (N := some 125) (v := ?_) (a' := ?_) #[true, true, true, true, true, true, true, true, true, false, false, false, false, false, false, false, false, false] rfl rfl (any_of HT_.out (by kernel_rfl)) (fun _ _ _ h => h) (Or.inl ⟨by rfl, ?_⟩) ?_ ?_
                                        rotate_left
                                        · intro w'
                                          go_simp
                                          with_reducible rfl
                                        rotate_left
                                        · simp only [Act.put, List.setIfInBounds_toArray, List.set_cons_zero, List.set_cons_succ, i64_w, i32_w]
                                          rfl
                                        refine pure_ (i := 9) (N := some 126) (v := ?_) (a' := ?_) #[true, true, true, true, true, true, true, true, true, true, false, false, false, false, false, false, false, false] rfl rfl (any_of HT_.out (by kernel_rfl)) (fun _ _ _ h => h) (Or.inl ⟨by rfl, ?_⟩) ?_ ?_
                                        rotate_left
                                        · intro w'
                                          go_simp
                                          with_reducible rfl
                                        rotate_left
                                        · simp only [Act.put, List.setIfInBounds_toArray, List.set_cons_zero, List.set_cons_succ, i64_w, i32_w]
                                          rfl
                                        refine take_ (i := 10) (N := some 127) (v := ?_) (a' := ?_) #[true, true, true, true, true, true, true, true, true, true, true, false, false, false, false, false, false, false] rfl rfl (take_ofW HT_.out HW_.out (by kernel_rfl)) (fun _ _ _ h => h) (Or.inl ⟨by rfl, ?_⟩) hHeld ?_ ?_
                                        rotate_left
                                        · rintro w' ⟨s0, s1, s2, s3⟩
                                          go_simp
                                          with_reducible rfl
                                        rotate_left
                                        · simp only [Act.put, List.setIfInBounds_toArray, List.set_cons_zero, List.set_cons_succ, i64_w, i32_w]
                                          rfl
                                        refine take_ (i := 11) (N := some 128) (v := ?_) (a' := ?_) #[true, true, true, true, true, true, true, true, true, true, true, true, false, false, false, false, false, false] rfl rfl (take_ofW HT_.out HW_.out (by kernel_rfl)) (fun _ _ _ h => h) (Or.inl ⟨by rfl, ?_⟩) hHeld ?_ ?_
                                        rotate_left
                                        · rintro w' ⟨s0, s1, s2, s3⟩
                                          go_simp
                                          with_reducible rfl
                                        rotate_left
                                        · simp only [Act.put, List.setIfInBounds_toArray, List.set_cons_zero, List.set_cons_succ, i64_w, i32_w]
                                          rfl
                                        refine pure_ (i := 12) (N := some 129) (v := ?_) (a' := ?_) #[true, true, true, true, true, true, true, true, true, true, true, true, true, false, false, false, false, false] rfl rfl (any_of HT_.out (by kernel_rfl)) (fun _ _ _ h => h) (Or.inl ⟨by rfl, ?_⟩) ?_ ?_
                                        rotate_left
                                        · intro w'
                                          go_simp
                                          with_reducible rfl
                                        rotate_left
                                        · simp only [Act.put, List.setIfInBounds_toArray, List.set_cons_zero, List.set_cons_succ, i64_w, i32_w]
                                          rfl
                                        refine pure_ (i := 13) (N := some 130) (v := ?_) (a' := ?_) #[true, true, true, true, true, true, true, true, true, true, true, true, true, true, false, false, false, false] rfl rfl (any_of HT_.out (by kernel_rfl)) (fun _ _ _ h => h) (Or.inl ⟨by rfl, ?_⟩) ?_ ?_
                                        rotate_left
                                        · intro w'
                                          go_simp
                                          with_reducible rfl
                                        rotate_left
                                        · simp only [Act.put, List.setIfInBounds_toArray, List.set_cons_zero, List.set_cons_succ, i64_w, i32_w]
                                          rfl
                                        refine pure_ (i := 14) (N := some 131) (v := ?_) (a' := ?_) #[true, true, true, true, true, true, true, true, true, true, true, true, true, true, true, false, false, false] rfl rfl (any_of HT_.out (by kernel_rfl)) (fun _ _ _ h => h) (Or.inl ⟨by rfl, ?_⟩) ?_ ?_
                                        rotate_left
                                        · intro w'
                                          go_simp
                                          with_reducible rfl
                                        rotate_left
                                        · simp only [Act.put, List.setIfInBounds_toArray, List.set_cons_zero, List.set_cons_succ, i64_w, i32_w]
                                          rfl
                                        refine one_ (i := 15) (N := some 132) #[true, true, true, true, true, true, true, true, true, true, true, true, true, true, true, true, false, false] rfl rfl (one_of HT_.out (by kernel_rfl)) (by decide) (fun K hK => ?_)
                                        refine goes_ Try.func10 (by kernel_rfl) rfl #[] (by rfl) rfl rfl (by (try simp only [List.map_toArray, List.map_cons, List.map_nil]); first | done | rfl | (simp only [List.length_drop, List.length_take]; rfl)) ?_
                                        with_reducible refine (sobriquetlaw17_wakes.calls k3  t176 _ A47.out (by first | exact hrt.out | rfl)).mono ?_
                                        rintro e w54 ⟨rfl, hb⟩
                                        have HS2_ := (hb.cell (World.block_lt_of_cell? _ _ (hHeld.2.2.1))).trans (hHeld.2.2.1)
                                        have HS3_ := (hb.cell (World.block_lt_of_cell? _ _ (hHeld.2.2.2))).trans (hHeld.2.2.2)
                                        refine ⟨_, rfl, ?_⟩
                                        have n0_ := Aside0.mk (Kd.R_below (by (with_reducible repeat (first | apply Kd.R_alloc | apply Kd.R_drewN | apply Kd.R_drew)); exact HO_13.out) hb)
                                        have n1_ := Aside0.mk (Kd.R_below (by (with_reducible repeat (first | apply Kd.R_alloc | apply Kd.R_drewN | apply Kd.R_drew)); exact HO169.out) hb)
                                        have n2_ := Aside0.mk (Kd.R_below (by (with_reducible repeat (first | apply Kd.R_alloc | apply Kd.R_drewN | apply Kd.R_drew)); exact HO174.out) hb)
                                        have n3_ := Aside0.mk (blk_below (g := gb154) (o := .cells #[.int .i64 (rd y143 (ji8)), .int .i64 x155001_13] 30 (0, 0)) (by (with_reducible repeat (first | refine blk_drewN ?_ _ | refine blk_drew ?_ | refine blk_alloc ?_ _)); exact BK154.out) hb)
                                        have n4_ := Aside0.mk (below_step (by repeat (first | (with_reducible first | exact HB.out | apply below_alloc | apply pw_below_drewN | apply below_drew1 | refine below_set ?_ GE154.out) | exact HB.out)) hb)
                                        clear HO_13
                                        clear HO169
                                        clear HO174
                                        clear BK154
                                        clear HB
                                        have HO_13 := n0_
                                        have HO169 := n1_
                                        have HO174 := n2_
                                        have BK154 := n3_
                                        have HB := n4_
                                        clear n0_ n1_ n2_ n3_ n4_
                                        (try clear hb)
                                        (try clear hb2)
                                        (try clear hk)
                                        (try clear hi)
                                        refine hK.out _ _ ⟨(blk_cell BK154.out 0).trans rfl, (blk_cell BK154.out 1).trans rfl, HS2_, HS3_⟩ (fun hHeld => ?_)
                                        clear hK K
                                        refine norm_ (a' := ?_) ?_ ?_
                                        rotate_left
                                        · show Act.put _ (some 132) _ = _
                                          simp only [Act.put, List.setIfInBounds_toArray, List.set_cons_zero, List.set_cons_succ, i64_w, i32_w]
                                          rfl
                                        refine pure_ (i := 16) (N := some 133) (v := ?_) (a' := ?_) #[true, true, true, true, true, true, true, true, true, true, true, true, true, true, true, true, true, false] rfl rfl (any_of HT_.out (by kernel_rfl)) (fun _ _ _ h => h) (Or.inl ⟨by rfl, ?_⟩) ?_ ?_
                                        rotate_left
                                        · intro w'
                                          go_simp
                                          with_reducible rfl
                                        rotate_left
                                        · simp only [Act.put, List.setIfInBounds_toArray, List.set_cons_zero, List.set_cons_succ, i64_w, i32_w]
                                          rfl
                                        refine pure_ (i := 17) (N := some 8) (v := ?_) (a' := ?_) #[true, true, true, true, true, true, true, true, true, true, true, true, true, true, true, true, true, true] rfl rfl (any_of HT_.out (by kernel_rfl)) (fun _ _ _ h => h) (Or.inl ⟨by rfl, ?_⟩) ?_ ?_
                                        rotate_left
                                        · intro w'
                                          go_simp
                                          with_reducible rfl
                                        rotate_left
                                        · simp only [Act.put, List.setIfInBounds_toArray, List.set_cons_zero, List.set_cons_succ, i64_w, i32_w]
                                          rfl
                                        refine done_ (done_of HT_.out (by kernel_rfl)) ?_
                                        try go_wp2
                                        go_ret
                                        exact ⟨by first | rfl | (simp [errW_none, errW_some] <;> rfl) | (simp only [← hji8]; first | rfl | (simp [errW_none, errW_some] <;> rfl)) | (simp [*, errW_none, errW_some] <;> rfl), by repeat (first | (with_reducible first | exact HB.out | apply below_alloc | apply pw_below_drewN | apply below_drew1 | refine below_set ?_ GE154.out) | exact HB.out)⟩
                                      · rw [if_neg c46] at H
                                        have c46b0 : (((rd_T30 t170 0).f0) == (rd y143 (ji8)) && (((rd_T30 t170 0).f1) == x155001_13)) = false := by simpa using c46
                                        (try (have c46b1 : decide (((rd_T30 t170 0).f0) = (rd y143 (ji8)) && (((rd_T30 t170 0).f1) == x155001_13)) = false := by simpa using c46))
                                        (try (have c46b2 : (((rd_T30 t170 0).f0) == (rd y143 (ji8)) && (((rd_T30 t170 0).f1) == x155001_13)) = false := by simpa using c46))
                                        (try (have c46b3 : ¬ (((rd_T30 t170 0).f0) = (rd y143 (ji8)) && (((rd_T30 t170 0).f1) == x155001_13)) := by simpa using c46))
                                        clear c46
                                        exact absurd ((Option.some.inj H).trans hrt.out) (by decide)
                                    · rw [if_neg c45] at H
                                      exact absurd H (by simp)
                                  · rw [if_neg c44] at H
                                    have c44b0 : ((t170.length : Int) == 1) = false := beq_eq_false_iff_ne.mpr c44
                                    have c44b1 : ((t170.length : Int) != 1) = true := bne_iff_ne.mpr c44
                                    exact absurd ((Option.some.inj H).trans hrt.out) (by decide)
                                · rw [if_neg c43] at H
                                  have c43b0 : (t172 == 0) = false := beq_eq_false_iff_ne.mpr c43
                                  have c43b1 : (t172 != 0) = true := bne_iff_ne.mpr c43
                                  exact absurd ((Option.some.inj H).trans hrt.out) (by decide)
                              · rw [if_neg c41] at H
                                exact absurd H (by simp)
                      · rw [if_neg c30] at H
                        exact absurd H (by simp)
                    · replace c29 := Bool.eq_false_iff.mpr c29
                      subst c29
                      have H1 : (if (wrap64 (Int.tmod (IntKind.u64.wrap (a1)) 4)) = 1 then (if t147.length < 140737488355328 then ((some (t147 ++ [14] : List Int)).bind fun y177 => (if y177.length + x13_13.length < 140737488355328 then ((shift_Tokens.f (y177 ++ x13_13)).bind fun bt183 => (if bt183.2.2 = 0 then (if (bt183.1.length : Int) = 1 then (if 0 < (bt183.1.length : Int) then (if (((rd_T30 bt183.1 0).f0) == (rd y143 (ji8)) && (((rd_T30 bt183.1 0).f1) == x155001_13)) = true then ((sobriquetlaw17_wakes.f kj26).bind fun t189 => (some t189)) else (some false)) else (none)) else (some false)) else (some false))) else (none))) else (none)) else (if (wrap64 (Int.tmod (IntKind.u64.wrap (a1)) 4)) = 2 then (if t147.length < 140737488355328 then ((some (t147 ++ [25] : List Int)).bind fun y190 => (if y190.length + x13_13.length < 140737488355328 then ((shift_Tokens.f (y190 ++ x13_13)).bind fun bt196 => (if bt196.2.2 = 0 then (if (bt196.1.length : Int) = 1 then (if 0 < (bt196.1.length : Int) then (if (((rd_T30 bt196.1 0).f0) == (rd y143 (ji8)) && (((rd_T30 bt196.1 0).f1) == x155001_13)) = true then ((sobriquetlaw17_wakes.f kj26).bind fun t202 => (some t202)) else (some false)) else (none)) else (some false)) else (some false))) else (none))) else (none)) else (if (wrap64 (Int.tmod (IntKind.u64.wrap (a1)) 4)) = 3 then (if t147.length < 140737488355328 then ((some (t147 ++ [29] : List Int)).bind fun y203 => (if y203.length + x13_13.length < 140737488355328 then ((shift_Tokens.f (y203 ++ x13_13)).bind fun bt209 => (if bt209.2.2 = 0 then (if (bt209.1.length : Int) = 1 then (if 0 < (bt209.1.length : Int) then (if (((rd_T30 bt209.1 0).f0) == (rd y143 (ji8)) && (((rd_T30 bt209.1 0).f1) == x155001_13)) = true then ((sobriquetlaw17_wakes.f kj26).bind fun t215 => (some t215)) else (some false)) else (none)) else (some false)) else (some false))) else (none))) else (none)) else (if t147.length + x13_13.length < 140737488355328 then ((shift_Tokens.f (t147 ++ x13_13)).bind fun bt219 => (if bt219.2.2 = 0 then (if (bt219.1.length : Int) = 1 then (if 0 < (bt219.1.length : Int) then (if (((rd_T30 bt219.1 0).f0) == (rd y143 (ji8)) && (((rd_T30 bt219.1 0).f1) == x155001_13)) = true then ((sobriquetlaw17_wakes.f kj26).bind fun t225 => (some t225)) else (some false)) else (none)) else (some false)) else (some false))) else (none))))) = some r := by rw [if_neg (show ¬ (false = true) by decide)] at H; exact H
                      clear H
                      have H := H1
                      clear H1
                      by_cases c55 : (wrap64 (Int.tmod (IntKind.u64.wrap (a1)) 4)) = 1
                      · rw [if_pos c55] at H
                        have c55b0 : ((wrap64 (Int.tmod (IntKind.u64.wrap (a1)) 4)) == 1) = true := beq_iff_eq.mpr c55
                        have c55b1 : ((wrap64 (Int.tmod (IntKind.u64.wrap (a1)) 4)) != 1) = false := bne_eq_false_iff_eq.mpr c55
                        clear c55
                        by_cases c56 : t147.length < 140737488355328
                        · rw [if_pos c56] at H
                          have LMc56 := Aside0.mk c56
                          clear c56
                          obtain ⟨y177, hy177⟩ : ∃ y_ : List Int, y_ = (t147 ++ [14]) := ⟨_, rfl⟩
                          replace H : (if y177.length + x13_13.length < 140737488355328 then ((shift_Tokens.f (y177 ++ x13_13)).bind fun bt183 => (if bt183.2.2 = 0 then (if (bt183.1.length : Int) = 1 then (if 0 < (bt183.1.length : Int) then (if (((rd_T30 bt183.1 0).f0) == (rd y143 (ji8)) && (((rd_T30 bt183.1 0).f1) == x155001_13)) = true then ((sobriquetlaw17_wakes.f kj26).bind fun t189 => (some t189)) else (some false)) else (none)) else (some false)) else (some false))) else (none)) = some r := by first | (rw [hy177]; with_reducible exact H) | (have H2_ := (Option.bind_some _ _).symm.trans H; rw [hy177]; with_reducible exact H2_) | (have H2_ := (Option.bind_some _ _).symm.trans H; with_reducible exact H2_) | with_reducible exact H | (rw [hy177]; exact H) | exact H
                          have Ny177 := Aside0.mk hy177
                          clear hy177
                          by_cases c57 : y177.length + x13_13.length < 140737488355328
                          · rw [if_pos c57] at H
                            have LMc57 := Aside0.mk c57
                            clear c57
                            obtain ⟨y180, hy180⟩ : ∃ y_ : List Int, y_ = (y177 ++ x13_13) := ⟨_, rfl⟩
                            replace H : ((shift_Tokens.f y180).bind fun bt183 => (if bt183.2.2 = 0 then (if (bt183.1.length : Int) = 1 then (if 0 < (bt183.1.length : Int) then (if (((rd_T30 bt183.1 0).f0) == (rd y143 (ji8)) && (((rd_T30 bt183.1 0).f1) == x155001_13)) = true then ((sobriquetlaw17_wakes.f kj26).bind fun t189 => (some t189)) else (some false)) else (none)) else (some false)) else (some false))) = some r := by first | (rw [hy180]; with_reducible exact H) | (have H2_ := (Option.bind_some _ _).symm.trans H; rw [hy180]; with_reducible exact H2_) | (have H2_ := (Option.bind_some _ _).symm.trans H; with_reducible exact H2_) | with_reducible exact H | (rw [hy180]; exact H) | exact H
                            have Ny180 := Aside0.mk hy180
                            clear hy180
                            replace H := Option.bind_eq_some_iff.mp H
                            obtain ⟨⟨t183, t184, t185⟩, A580, H⟩ := H
                            replace H : (if t185 = 0 then (if (t183.length : Int) = 1 then (if 0 < (t183.length : Int) then (if (((rd_T30 t183 0).f0) == (rd y143 (ji8)) && (((rd_T30 t183 0).f1) == x155001_13)) = true then ((sobriquetlaw17_wakes.f kj26).bind fun t189 => (some t189)) else (some false)) else (none)) else (some false)) else (some false)) = some r := H
                            have A58 := Aside0.mk A580
                            clear A580
                            by_cases c59 : t185 = 0
                            · rw [if_pos c59] at H
                              have c59b0 : (t185 == 0) = true := beq_iff_eq.mpr c59
                              have c59b1 : (t185 != 0) = false := bne_eq_false_iff_eq.mpr c59
                              clear c59
                              by_cases c60 : (t183.length : Int) = 1
                              · rw [if_pos c60] at H
                                have c60b0 : ((t183.length : Int) == 1) = true := beq_iff_eq.mpr c60
                                have c60b1 : ((t183.length : Int) != 1) = false := bne_eq_false_iff_eq.mpr c60
                                clear c60
                                by_cases c61 : 0 < (t183.length : Int)
                                · rw [if_pos c61] at H
                                  have c61b0 : decide (0 < (t183.length : Int)) = true := decide_eq_true c61
                                  have c61b1 : decide (0 < t183.length) = true := decide_eq_true (by omega)
                                  clear c61
                                  by_cases c62 : (((rd_T30 t183 0).f0) == (rd y143 (ji8)) && (((rd_T30 t183 0).f1) == x155001_13)) = true
                                  · rw [if_pos c62] at H
                                    have c62b0 : (((rd_T30 t183 0).f0) == (rd y143 (ji8)) && (((rd_T30 t183 0).f1) == x155001_13)) = true := c62
                                    (try (have c62b1 : decide (((rd_T30 t183 0).f0) = (rd y143 (ji8)) && (((rd_T30 t183 0).f1) == x155001_13)) = true := by simpa using c62))
                                    (try (have c62b2 : (((rd_T30 t183 0).f0) == (rd y143 (ji8)) && (((rd_T30 t183 0).f1) == x155001_13)) = true := by simpa using c62))
                                    clear c62
                                    replace H := Option.bind_eq_some_iff.mp H
                                    obtain ⟨t189, A630, H⟩ := H
                                    replace H : (some t189) = some r := H
                                    have A63 := Aside0.mk A630
                                    clear A630
                                    obtain rfl := Option.some.inj H
                                    try go_wp2_with (first | ((with_reducible refine gate_builtin (b := .append) (xs := #[.tmp 94, .tmp 95]) rfl ?_); (try (refine gate_guard (by rfl) ?_; dsimp only)); at_builtin; refine Kd.R_append (Kd.int .u8) (w0 := w) w.heap.size rfl (.tmp 94) (.tmp 95) 25 5 (.int .u8 0) 1 rfl Try.underlying25 info5 rfl (by decide) (by omega) v149 t147 14 [.int .u8 14] (fun k_ => some k_ ≠ (u13 : Value).ownBlock) (fun _ => False) rfl rfl ?aP (fun _ hk => hk.elim) ?aF ?aO ?aB ?aS ?aL ?_; (case aP => exact rfl); (case aB => exact (by repeat (first | (with_reducible first | exact HB.out | apply below_alloc | apply pw_below_drewN | apply below_drew1 | refine below_set ?_ GE154.out) | exact HB.out))); (case aF => exact (fun k_ hk => Kd.fresh' (Kd.R_lt (by (with_reducible repeat (first | apply Kd.R_alloc | apply Kd.R_drewN | apply Kd.R_drew)); exact HO_13.out)) k_ hk)); (case aO => exact (by (with_reducible repeat (first | apply Kd.R_alloc | apply Kd.R_drewN | apply Kd.R_drew)); exact HO_11.out)); (case aS => exact (below_size (by repeat (first | (with_reducible first | exact HB.out | apply below_alloc | apply pw_below_drewN | apply below_drew1 | refine below_set ?_ GE154.out) | exact HB.out)))); (case aL => have := LMc56.out; omega); intro v178 w64 ho hb hg hat; rw [← Ny177.out] at ho; have n0_ := Aside0.mk (Kd.R_after (ok := (fun _ => True)) (by (with_reducible repeat (first | apply Kd.R_alloc | apply Kd.R_drewN | apply Kd.R_drew)); exact Kd.R_mono HO_13.out (fun _ hk => ⟨trivial, hk⟩)) hg hat); have n1_ := Aside0.mk (blk_grown (g := gb154) (o := .cells #[.int .i64 (rd y143 (ji8)), .int .i64 x155001_13] 30 (0, 0)) (by (with_reducible repeat (first | refine blk_drewN ?_ _ | refine blk_drew ?_ | refine blk_alloc ?_ _)); exact BK154.out) hg (Kd.R_ne HO_11.out BK154.out (by decide))); have n2_ := Aside0.mk (hb); have n3_ := Aside0.mk (ho); clear HO_13; clear BK154; clear HB; clear HO_11; have HO_13 := n0_; have BK154 := n1_; have HB := n2_; have HO179 := n3_; clear n0_ n1_ n2_ n3_; clear ho hb hg hat; obtain ⟨Ao66, co66, eo66⟩ := Kd.R_slice HO_13.out; subst eo66) | ((with_reducible refine gate_builtin (b := .append) (xs := #[.tmp 110, .tmp 111]) rfl ?_); (try (refine gate_guard (by rfl) ?_; dsimp only)); at_builtin; refine Kd.R_append_rows (Kd.int .u8) (w0 := w) w.heap.size rfl (.tmp 110) (.tmp 111) 25 5 (.int .u8 0) 1 rfl Try.underlying25 info5 rfl (by decide) (by omega) v178 y177 x13_13 _ _ _ (fun k_ => some k_ ≠ (.slice Ao66 x13_13.length co66 : Value).ownBlock) (fun _ => False) rfl rfl ?aO ?aR (fun _ _ h => h) (fun _ h => h.elim) ?aF ?aB ?aS ?aL ?_; (case aR => repeat (first | exact (Kd.R_reads' HO_13.out).2.2 | (with_reducible refine Kd.C_alloc ?_ _) | (with_reducible refine Kd.C_drewN ?_ _) | (with_reducible refine Kd.C_drew ?_))); (case aB => exact (by repeat (first | (with_reducible first | exact HB.out | apply below_alloc | apply pw_below_drewN | apply below_drew1 | refine below_set ?_ GE154.out) | exact HB.out))); (case aF => exact (fun k_ hk => Kd.fresh' (Kd.R_lt (by (with_reducible repeat (first | apply Kd.R_alloc | apply Kd.R_drewN | apply Kd.R_drew)); exact HO_13.out)) k_ hk)); (case aO => exact (by (with_reducible repeat (first | apply Kd.R_alloc | apply Kd.R_drewN | apply Kd.R_drew)); exact HO179.out)); (case aS => exact (below_size (by repeat (first | (with_reducible first | exact HB.out | apply below_alloc | apply pw_below_drewN | apply below_drew1 | refine below_set ?_ GE154.out) | exact HB.out)))); (case aL => have := LMc57.out; omega); intro v181 w65 ho hb hg hat; rw [← Ny180.out] at ho; have n0_ := Aside0.mk (Kd.R_after (ok := (fun _ => True)) (by (with_reducible repeat (first | apply Kd.R_alloc | apply Kd.R_drewN | apply Kd.R_drew)); exact HO_13.out) hg hat); have n1_ := Aside0.mk (blk_grown (g := gb154) (o := .cells #[.int .i64 (rd y143 (ji8)), .int .i64 x155001_13] 30 (0, 0)) (by (with_reducible repeat (first | refine blk_drewN ?_ _ | refine blk_drew ?_ | refine blk_alloc ?_ _)); exact BK154.out) hg (Kd.R_ne HO179.out BK154.out (by decide))); have n2_ := Aside0.mk (hb); have n3_ := Aside0.mk (ho); clear HO_13; clear BK154; clear HB; clear HO179; have HO_13 := n0_; have BK154 := n1_; have HB := n2_; have HO182 := n3_; clear n0_ n1_ n2_ n3_; clear ho hb hg hat; obtain ⟨Ao67, co67, eo67⟩ := Kd.R_slice HO182.out; subst eo67) | ((with_reducible refine gate_callee (f := 9) rfl ?_); refine goesL_ (some 113) rfl rfl Try.func9 (by kernel_rfl) rfl #[.slice Ao67 y180.length co67] rfl (by (try simp only [List.map_toArray, List.map_cons, List.map_nil]); first | done | rfl | (simp only [List.length_drop, List.length_take]; rfl)) ?_; (with_reducible refine (shift_Tokens.calls _ _ y180 t183 t184 t185 _ ?side1 ?side2 A58.out).mono ?_); (case side1 => repeat (first | exact (Kd.R_reads' HO182.out).2.2 | (with_reducible refine Kd.C_alloc ?_ _) | (with_reducible refine Kd.C_drewN ?_ _) | (with_reducible refine Kd.C_drew ?_))); (case side2 => exact (Kd.R_reads' HO182.out).2.1); rintro e w68 ⟨v186, rfl, ho0, hb⟩; refine ⟨_, rfl, ?_⟩; have n0_ := Aside0.mk (Kd.R_below (by (with_reducible repeat (first | apply Kd.R_alloc | apply Kd.R_drewN | apply Kd.R_drew)); exact HO_13.out) hb); have n1_ := Aside0.mk (Kd.R_below (by (with_reducible repeat (first | apply Kd.R_alloc | apply Kd.R_drewN | apply Kd.R_drew)); exact HO182.out) hb); have n2_ := Aside0.mk (Kd.R_lower (Kd.R_newB ho0 (g := gb154) (o := .cells #[.int .i64 (rd y143 (ji8)), .int .i64 x155001_13] 30 (0, 0)) (by (with_reducible repeat (first | refine blk_drewN ?_ _ | refine blk_drew ?_ | refine blk_alloc ?_ _)); exact BK154.out)) (below_size (by repeat (first | (with_reducible first | exact HB.out | apply below_alloc | apply pw_below_drewN | apply below_drew1 | refine below_set ?_ GE154.out) | exact HB.out)))); have n3_ := Aside0.mk (blk_below (g := gb154) (o := .cells #[.int .i64 (rd y143 (ji8)), .int .i64 x155001_13] 30 (0, 0)) (by (with_reducible repeat (first | refine blk_drewN ?_ _ | refine blk_drew ?_ | refine blk_alloc ?_ _)); exact BK154.out) hb); have n4_ := Aside0.mk (below_step (by repeat (first | (with_reducible first | exact HB.out | apply below_alloc | apply pw_below_drewN | apply below_drew1 | refine below_set ?_ GE154.out) | exact HB.out)) hb); clear HO_13; clear HO182; clear BK154; clear HB; have HO_13 := n0_; have HO182 := n1_; have HO187 := n2_; have BK154 := n3_; have HB := n4_; clear n0_ n1_ n2_ n3_ n4_; (try clear hb); (try clear hb2); (try clear hk); (try clear hi); (try clear ho0)))
                                    have n0_ := Aside0.mk (Kd.R_drew HO_13.out)
                                    have n1_ := Aside0.mk (Kd.R_drew HO182.out)
                                    have n2_ := Aside0.mk (Kd.R_drew HO187.out)
                                    have n3_ := Aside0.mk (blk_drew BK154.out)
                                    have n4_ := Aside0.mk (below_drew1 HB.out)
                                    clear HO_13
                                    clear HO182
                                    clear HO187
                                    clear BK154
                                    clear HB
                                    have HO_13 := n0_
                                    have HO182 := n1_
                                    have HO187 := n2_
                                    have BK154 := n3_
                                    have HB := n4_
                                    clear n0_ n1_ n2_ n3_ n4_
                                    obtain ⟨Ao70, co70, eo70⟩ := Kd.R_slice HO187.out
                                    (first | subst eo70 | (injection eo70 with f1_ f2_ f3_; have f4_ := f1_.symm; have f5_ := f3_.symm; clear f1_ f2_ f3_; subst f4_; subst f5_))
                                    have p188 : 0 ≤ (0 : Int) := (by omega)
                                    have q188 : 0 < (t183.length : Int) := of_decide_eq_true (by first | (with_reducible assumption) | assumption)
                                    obtain ⟨ad188, e188, hx188_0, hx188_1⟩ := at_T30 (Kd.R_reads' HO187.out).2.2 0 p188 q188
                                    cases e188
                                    have qi188 : (0 < t183.length) = True := eq_true (by omega)
                                    (try rw [show ((0 : Int)).toNat = 0 from rfl] at hx188_0)
                                    (try rw [show 0 * 2 = 0 from rfl] at hx188_0)
                                    (try rw [Addr.add_zero'] at hx188_0)
                                    (try rw [show ((0 : Int)).toNat = 0 from rfl] at hx188_1)
                                    (try rw [show 0 * 2 = 0 from rfl] at hx188_1)
                                    (try rw [Addr.add_zero'] at hx188_1)
                                    replace p188 := eq_true p188
                                    replace q188 := eq_true q188
                                    refine start_ (n := 18) (S := fun w' => w'.cell? ⟨gb154, 0, none⟩ = some (.int .i64 (rd y143 (ji8))) ∧ w'.cell? ⟨gb154, 1, none⟩ = some (.int .i64 x155001_13) ∧ w'.cell? ad188 = some (.int .i64 ((rd_T30 t183 0).f0)) ∧ w'.cell? ⟨ad188.block, ad188.off + 1, none⟩ = some (.int .i64 ((rd_T30 t183 0).f1))) (ds := []) #[false, false, false, false, false, false, false, false, false, false, false, false, false, false, false, false, false, false] (by kernel_rfl) rfl rfl ⟨(blk_cell BK154.out 0).trans rfl, (blk_cell BK154.out 1).trans rfl, hx188_0, hx188_1⟩ (fun hHeld => ?_); refine with_tabW sobriquetlaw17_ShiftSets.tab25 sobriquetlaw17_ShiftSets.bits25 (fun HT_ HW_ => ?_)
                                    generalize w68.drew = w69 at HO_13 HO182 HO187 BK154 HB hx188_0 hx188_1 hHeld ⊢
                                    refine pure_ (i := 0) (N := some 117) (v := ?_) (a' := ?_) #[true, false, false, false, false, false, false, false, false, false, false, false, false, false, false, false, false, false] rfl rfl (any_of HT_.out (by kernel_rfl)) (fun _ _ _ h => h) (Or.inl ⟨by rfl, ?_⟩) ?_ ?_
                                    rotate_left
                                    · intro w'
                                      go_simp
                                      with_reducible rfl
                                    rotate_left
                                    · simp only [Act.put, List.setIfInBounds_toArray, List.set_cons_zero, List.set_cons_succ, i64_w, i32_w]
                                      rfl
                                    refine pure_ (i := 1) (N := some 118) (v := ?_) (a' := ?_) #[true, true, false, false, false, false, false, false, false, false, false, false, false, false, false, false, false, false] rfl rfl (any_of HT_.out (by kernel_rfl)) (fun _ _ _ h => h) (Or.inl ⟨by rfl, ?_⟩) ?_ ?_
                                    rotate_left
                                    · intro w'
                                      go_simp
                                      with_reducible rfl
                                    rotate_left
                                    · simp only [Act.put, List.setIfInBounds_toArray, List.set_cons_zero, List.set_cons_succ, i64_w, i32_w]
                                      rfl
                                    refine pure_ (i := 2) (N := some 119) (v := ?_) (a' := ?_) #[true, true, true, false, false, false, false, false, false, false, false, false, false, false, false, false, false, false] rfl rfl (any_of HT_.out (by kernel_rfl)) (fun _ _ _ h => h) (Or.inl ⟨by rfl, ?_⟩) ?_ ?_
                                    rotate_left
                                    · intro w'
                                      go_simp
                                      with_reducible rfl
                                    rotate_left
                                    · simp only [Act.put, List.setIfInBounds_toArray, List.set_cons_zero, List.set_cons_succ, i64_w, i32_w]
                                      rfl
                                    refine pure_ (i := 3) (N := some 120) (v := ?_) (a' := ?_) #[true, true, true, true, false, false, false, false, false, false, false, false, false, false, false, false, false, false] rfl rfl (any_of HT_.out (by kernel_rfl)) (fun _ _ _ h => h) (Or.inl ⟨by rfl, ?_⟩) ?_ ?_
                                    rotate_left
                                    · intro w'
                                      go_simp
                                      with_reducible rfl
                                    rotate_left
                                    · simp only [Act.put, List.setIfInBounds_toArray, List.set_cons_zero, List.set_cons_succ, i64_w, i32_w]
                                      rfl
                                    refine pure_ (i := 4) (N := some 121) (v := ?_) (a' := ?_) #[true, true, true, true, true, false, false, false, false, false, false, false, false, false, false, false, false, false] rfl rfl (any_of HT_.out (by kernel_rfl)) (fun _ _ _ h => h) (Or.inl ⟨by rfl, ?_⟩) ?_ ?_
                                    rotate_left
                                    · intro w'
                                      go_simp
                                      with_reducible rfl
                                    rotate_left
                                    · simp only [Act.put, List.setIfInBounds_toArray, List.set_cons_zero, List.set_cons_succ, i64_w, i32_w]
                                      rfl
                                    refine pure_ (i := 5) (N := some 122) (v := ?_) (a' := ?_) #[true, true, true, true, true, true, false, false, false, false, false, false, false, false, false, false, false, false] rfl rfl (any_of HT_.out (by kernel_rfl)) (fun _ _ _ h => h) (Or.inl ⟨by rfl, ?_⟩) ?_ ?_
                                    rotate_left
                                    · intro w'
                                      go_simp
                                      with_reducible rfl
                                    rotate_left
                                    · simp only [Act.put, List.setIfInBounds_toArray, List.set_cons_zero, List.set_cons_succ, i64_w, i32_w]
                                      rfl
                                    refine pure_ (i := 6) (N := some 123) (v := ?_) (a' := ?_) #[true, true, true, true, true, true, true, false, false, false, false, false, false, false, false, false, false, false] rfl rfl (any_of HT_.out (by kernel_rfl)) (fun _ _ _ h => h) (Or.inl ⟨by rfl, ?_⟩) ?_ ?_
                                    rotate_left
                                    · intro w'
                                      go_simp
                                      with_reducible rfl
                                    rotate_left
                                    · simp only [Act.put, List.setIfInBounds_toArray, List.set_cons_zero, List.set_cons_succ, i64_w, i32_w]
                                      rfl
                                    refine pure_ (i := 7) (N := some 124) (v := ?_) (a' := ?_) #[true, true, true, true, true, true, true, true, false, false, false, false, false, false, false, false, false, false] rfl rfl (any_of HT_.out (by kernel_rfl)) (fun _ _ _ h => h) (Or.inl ⟨by rfl, ?_⟩) ?_ ?_
                                    rotate_left
                                    · intro w'
                                      go_simp
                                      with_reducible rfl
                                    rotate_left
                                    · simp only [Act.put, List.setIfInBounds_toArray, List.set_cons_zero, List.set_cons_succ, i64_w, i32_w]
                                      rfl
                                    refine pure_ (i := 8) (N := some 125) (v := ?_) (a' := ?_) #[true, true, true, true, true, true, true, true, true, false, false, false, false, false, false, false, false, false] rfl rfl (any_of HT_.out (by kernel_rfl)) (fun _ _ _ h => h) (Or.inl ⟨by rfl, ?_⟩) ?_ ?_
                                    rotate_left
                                    · intro w'
                                      go_simp
                                      with_reducible rfl
                                    rotate_left
                                    · simp only [Act.put, List.setIfInBounds_toArray, List.set_cons_zero, List.set_cons_succ, i64_w, i32_w]
                                      rfl
                                    refine pure_ (i := 9) (N := some 126) (v := ?_) (a' := ?_) #[true, true, true, true, true, true, true, true, true, true, false, false, false, false, false, false, false, false] rfl rfl (any_of HT_.out (by kernel_rfl)) (fun _ _ _ h => h) (Or.inl ⟨by rfl, ?_⟩) ?_ ?_
                                    rotate_left
                                    · intro w'
                                      go_simp
                                      with_reducible rfl
                                    rotate_left
                                    · simp only [Act.put, List.setIfInBounds_toArray, List.set_cons_zero, List.set_cons_succ, i64_w, i32_w]
                                      rfl
                                    refine take_ (i := 10) (N := some 127) (v := ?_) (a' := ?_) #[true, true, true, true, true, true, true, true, true, true, true, false, false, false, false, false, false, false] rfl rfl (take_ofW HT_.out HW_.out (by kernel_rfl)) (fun _ _ _ h => h) (Or.inl ⟨by rfl, ?_⟩) hHeld ?_ ?_
                                    rotate_left
                                    · rintro w' ⟨s0, s1, s2, s3⟩
                                      go_simp
                                      with_reducible rfl
                                    rotate_left
                                    · simp only [Act.put, List.setIfInBounds_toArray, List.set_cons_zero, List.set_cons_succ, i64_w, i32_w]
                                      rfl
                                    refine take_ (i := 11) (N := some 128) (v := ?_) (a' := ?_) #[true, true, true, true, true, true, true, true, true, true, true, true, false, false, false, false, false, false] rfl rfl (take_ofW HT_.out HW_.out (by kernel_rfl)) (fun _ _ _ h => h) (Or.inl ⟨by rfl, ?_⟩) hHeld ?_ ?_
                                    rotate_left
                                    · rintro w' ⟨s0, s1, s2, s3⟩
                                      go_simp
                                      with_reducible rfl
                                    rotate_left
                                    · simp only [Act.put, List.setIfInBounds_toArray, List.set_cons_zero, List.set_cons_succ, i64_w, i32_w]
                                      rfl
                                    refine pure_ (i := 12) (N := some 129) (v := ?_) (a' := ?_) #[true, true, true, true, true, true, true, true, true, true, true, true, true, false, false, false, false, false] rfl rfl (any_of HT_.out (by kernel_rfl)) (fun _ _ _ h => h) (Or.inl ⟨by rfl, ?_⟩) ?_ ?_
                                    rotate_left
                                    · intro w'
                                      go_simp
                                      with_reducible rfl
                                    rotate_left
                                    · simp only [Act.put, List.setIfInBounds_toArray, List.set_cons_zero, List.set_cons_succ, i64_w, i32_w]
                                      rfl
                                    refine pure_ (i := 13) (N := some 130) (v := ?_) (a' := ?_) #[true, true, true, true, true, true, true, true, true, true, true, true, true, true, false, false, false, false] rfl rfl (any_of HT_.out (by kernel_rfl)) (fun _ _ _ h => h) (Or.inl ⟨by rfl, ?_⟩) ?_ ?_
                                    rotate_left
                                    · intro w'
                                      go_simp
                                      with_reducible rfl
                                    rotate_left
                                    · simp only [Act.put, List.setIfInBounds_toArray, List.set_cons_zero, List.set_cons_succ, i64_w, i32_w]
                                      rfl
                                    refine pure_ (i := 14) (N := some 131) (v := ?_) (a' := ?_) #[true, true, true, true, true, true, true, true, true, true, true, true, true, true, true, false, false, false] rfl rfl (any_of HT_.out (by kernel_rfl)) (fun _ _ _ h => h) (Or.inl ⟨by rfl, ?_⟩) ?_ ?_
                                    rotate_left
                                    · intro w'
                                      go_simp
                                      with_reducible rfl
                                    rotate_left
                                    · simp only [Act.put, List.setIfInBounds_toArray, List.set_cons_zero, List.set_cons_succ, i64_w, i32_w]
                                      rfl
                                    refine one_ (i := 15) (N := some 132) #[true, true, true, true, true, true, true, true, true, true, true, true, true, true, true, true, false, false] rfl rfl (one_of HT_.out (by kernel_rfl)) (by decide) (fun K hK => ?_)
                                    refine goes_ Try.func10 (by kernel_rfl) rfl #[] (by rfl) rfl rfl (by (try simp only [List.map_toArray, List.map_cons, List.map_nil]); first | done | rfl | (simp only [List.length_drop, List.length_take]; rfl)) ?_
                                    with_reducible refine (sobriquetlaw17_wakes.calls kj26  t189 _ A63.out (by first | exact hrt.out | rfl)).mono ?_
                                    rintro e w71 ⟨rfl, hb⟩
                                    have HS2_ := (hb.cell (World.block_lt_of_cell? _ _ (hHeld.2.2.1))).trans (hHeld.2.2.1)
                                    have HS3_ := (hb.cell (World.block_lt_of_cell? _ _ (hHeld.2.2.2))).trans (hHeld.2.2.2)
                                    refine ⟨_, rfl, ?_⟩
                                    have n0_ := Aside0.mk (Kd.R_below (by (with_reducible repeat (first | apply Kd.R_alloc | apply Kd.R_drewN | apply Kd.R_drew)); exact HO_13.out) hb)
                                    have n1_ := Aside0.mk (Kd.R_below (by (with_reducible repeat (first | apply Kd.R_alloc | apply Kd.R_drewN | apply Kd.R_drew)); exact HO182.out) hb)
                                    have n2_ := Aside0.mk (Kd.R_below (by (with_reducible repeat (first | apply Kd.R_alloc | apply Kd.R_drewN | apply Kd.R_drew)); exact HO187.out) hb)
                                    have n3_ := Aside0.mk (blk_below (g := gb154) (o := .cells #[.int .i64 (rd y143 (ji8)), .int .i64 x155001_13] 30 (0, 0)) (by (with_reducible repeat (first | refine blk_drewN ?_ _ | refine blk_drew ?_ | refine blk_alloc ?_ _)); exact BK154.out) hb)
                                    have n4_ := Aside0.mk (below_step (by repeat (first | (with_reducible first | exact HB.out | apply below_alloc | apply pw_below_drewN | apply below_drew1 | refine below_set ?_ GE154.out) | exact HB.out)) hb)
                                    clear HO_13
                                    clear HO182
                                    clear HO187
                                    clear BK154
                                    clear HB
                                    have HO_13 := n0_
                                    have HO182 := n1_
                                    have HO187 := n2_
                                    have BK154 := n3_
                                    have HB := n4_
                                    clear n0_ n1_ n2_ n3_ n4_
                                    (try clear hb)
                                    (try clear hb2)
                                    (try clear hk)
                                    (try clear hi)
                                    refine hK.out _ _ ⟨(blk_cell BK154.out 0).trans rfl, (blk_cell BK154.out 1).trans rfl, HS2_, HS3_⟩ (fun hHeld => ?_)
                                    clear hK K
                                    refine norm_ (a' := ?_) ?_ ?_
                                    rotate_left
                                    · show Act.put _ (some 132) _ = _
                                      simp only [Act.put, List.setIfInBounds_toArray, List.set_cons_zero, List.set_cons_succ, i64_w, i32_w]
                                      rfl
                                    refine pure_ (i := 16) (N := some 133) (v := ?_) (a' := ?_) #[true, true, true, true, true, true, true, true, true, true, true, true, true, true, true, true, true, false] rfl rfl (any_of HT_.out (by kernel_rfl)) (fun _ _ _ h => h) (Or.inl ⟨by rfl, ?_⟩) ?_ ?_
                                    rotate_left
                                    · intro w'
                                      go_simp
                                      with_reducible rfl
                                    rotate_left
                                    · simp only [Act.put, List.setIfInBounds_toArray, List.set_cons_zero, List.set_cons_succ, i64_w, i32_w]
                                      rfl
                                    refine pure_ (i := 17) (N := some 8) (v := ?_) (a' := ?_) #[true, true, true, true, true, true, true, true, true, true, true, true, true, true, true, true, true, true] rfl rfl (any_of HT_.out (by kernel_rfl)) (fun _ _ _ h => h) (Or.inl ⟨by rfl, ?_⟩) ?_ ?_
                                    rotate_left
                                    · intro w'
                                      go_simp
                                      with_reducible rfl
                                    rotate_left
                                    · simp only [Act.put, List.setIfInBounds_toArray, List.set_cons_zero, List.set_cons_succ, i64_w, i32_w]
                                      rfl
                                    refine done_ (done_of HT_.out (by kernel_rfl)) ?_
                                    try go_wp2
                                    go_ret
                                    exact ⟨by first | rfl | (simp [errW_none, errW_some] <;> rfl) | (simp only [← hji8]; first | rfl | (simp [errW_none, errW_some] <;> rfl)) | (simp [*, errW_none, errW_some] <;> rfl), by repeat (first | (with_reducible first | exact HB.out | apply below_alloc | apply pw_below_drewN | apply below_drew1 | refine below_set ?_ GE154.out) | exact HB.out)⟩
                                  · rw [if_neg c62] at H
                                    have c62b0 : (((rd_T30 t183 0).f0) == (rd y143 (ji8)) && (((rd_T30 t183 0).f1) == x155001_13)) = false := by simpa using c62
                                    (try (have c62b1 : decide (((rd_T30 t183 0).f0) = (rd y143 (ji8)) && (((rd_T30 t183 0).f1) == x155001_13)) = false := by simpa using c62))
                                    (try (have c62b2 : (((rd_T30 t183 0).f0) == (rd y143 (ji8)) && (((rd_T30 t183 0).f1) == x155001_13)) = false := by simpa using c62))
                                    (try (have c62b3 : ¬ (((rd_T30 t183 0).f0) = (rd y143 (ji8)) && (((rd_T30 t183 0).f1) == x155001_13)) := by simpa using c62))
                                    clear c62
                                    exact absurd ((Option.some.inj H).trans hrt.out) (by decide)
                                · rw [if_neg c61] at H
                                  exact absurd H (by simp)
                              · rw [if_neg c60] at H
                                have c60b0 : ((t183.length : Int) == 1) = false := beq_eq_false_iff_ne.mpr c60
                                have c60b1 : ((t183.length : Int) != 1) = true := bne_iff_ne.mpr c60
                                exact absurd ((Option.some.inj H).trans hrt.out) (by decide)
                            · rw [if_neg c59] at H
                              have c59b0 : (t185 == 0) = false := beq_eq_false_iff_ne.mpr c59
                              have c59b1 : (t185 != 0) = true := bne_iff_ne.mpr c59
                              exact absurd ((Option.some.inj H).trans hrt.out) (by decide)
                          · rw [if_neg c57] at H
                            exact absurd H (by simp)
                        · rw [if_neg c56] at H
                          exact absurd H (by simp)
                      · rw [if_neg c55] at H
                        have c55b0 : ((wrap64 (Int.tmod (IntKind.u64.wrap (a1)) 4)) == 1) = false := beq_eq_false_iff_ne.mpr c55
                        have c55b1 : ((wrap64 (Int.tmod (IntKind.u64.wrap (a1)) 4)) != 1) = true := bne_iff_ne.mpr c55
                        by_cases c72 : (wrap64 (Int.tmod (IntKind.u64.wrap (a1)) 4)) = 2
                        · rw [if_pos c72] at H
                          have c72b0 : ((wrap64 (Int.tmod (IntKind.u64.wrap (a1)) 4)) == 2) = true := beq_iff_eq.mpr c72
                          have c72b1 : ((wrap64 (Int.tmod (IntKind.u64.wrap (a1)) 4)) != 2) = false := bne_eq_false_iff_eq.mpr c72
                          clear c72
                          by_cases c73 : t147.length < 140737488355328
                          · rw [if_pos c73] at H
                            have LMc73 := Aside0.mk c73
                            clear c73
                            obtain ⟨y190, hy190⟩ : ∃ y_ : List Int, y_ = (t147 ++ [25]) := ⟨_, rfl⟩
                            replace H : (if y190.length + x13_13.length < 140737488355328 then ((shift_Tokens.f (y190 ++ x13_13)).bind fun bt196 => (if bt196.2.2 = 0 then (if (bt196.1.length : Int) = 1 then (if 0 < (bt196.1.length : Int) then (if (((rd_T30 bt196.1 0).f0) == (rd y143 (ji8)) && (((rd_T30 bt196.1 0).f1) == x155001_13)) = true then ((sobriquetlaw17_wakes.f kj26).bind fun t202 => (some t202)) else (some false)) else (none)) else (some false)) else (some false))) else (none)) = some r := by first | (rw [hy190]; with_reducible exact H) | (have H2_ := (Option.bind_some _ _).symm.trans H; rw [hy190]; with_reducible exact H2_) | (have H2_ := (Option.bind_some _ _).symm.trans H; with_reducible exact H2_) | with_reducible exact H | (rw [hy190]; exact H) | exact H
                            have Ny190 := Aside0.mk hy190
                            clear hy190
                            by_cases c74 : y190.length + x13_13.length < 140737488355328
                            · rw [if_pos c74] at H
                              have LMc74 := Aside0.mk c74
                              clear c74
                              obtain ⟨y193, hy193⟩ : ∃ y_ : List Int, y_ = (y190 ++ x13_13) := ⟨_, rfl⟩
                              replace H : ((shift_Tokens.f y193).bind fun bt196 => (if bt196.2.2 = 0 then (if (bt196.1.length : Int) = 1 then (if 0 < (bt196.1.length : Int) then (if (((rd_T30 bt196.1 0).f0) == (rd y143 (ji8)) && (((rd_T30 bt196.1 0).f1) == x155001_13)) = true then ((sobriquetlaw17_wakes.f kj26).bind fun t202 => (some t202)) else (some false)) else (none)) else (some false)) else (some false))) = some r := by first | (rw [hy193]; with_reducible exact H) | (have H2_ := (Option.bind_some _ _).symm.trans H; rw [hy193]; with_reducible exact H2_) | (have H2_ := (Option.bind_some _ _).symm.trans H; with_reducible exact H2_) | with_reducible exact H | (rw [hy193]; exact H) | exact H
                              have Ny193 := Aside0.mk hy193
                              clear hy193
                              replace H := Option.bind_eq_some_iff.mp H
                              obtain ⟨⟨t196, t197, t198⟩, A750, H⟩ := H
                              replace H : (if t198 = 0 then (if (t196.length : Int) = 1 then (if 0 < (t196.length : Int) then (if (((rd_T30 t196 0).f0) == (rd y143 (ji8)) && (((rd_T30 t196 0).f1) == x155001_13)) = true then ((sobriquetlaw17_wakes.f kj26).bind fun t202 => (some t202)) else (some false)) else (none)) else (some false)) else (some false)) = some r := H
                              have A75 := Aside0.mk A750
                              clear A750
                              by_cases c76 : t198 = 0
                              · rw [if_pos c76] at H
                                have c76b0 : (t198 == 0) = true := beq_iff_eq.mpr c76
                                have c76b1 : (t198 != 0) = false := bne_eq_false_iff_eq.mpr c76
                                clear c76
                                by_cases c77 : (t196.length : Int) = 1
                                · rw [if_pos c77] at H
                                  have c77b0 : ((t196.length : Int) == 1) = true := beq_iff_eq.mpr c77
                                  have c77b1 : ((t196.length : Int) != 1) = false := bne_eq_false_iff_eq.mpr c77
                                  clear c77
                                  by_cases c78 : 0 < (t196.length : Int)
                                  · rw [if_pos c78] at H
                                    have c78b0 : decide (0 < (t196.length : Int)) = true := decide_eq_true c78
                                    have c78b1 : decide (0 < t196.length) = true := decide_eq_true (by omega)
                                    clear c78
                                    by_cases c79 : (((rd_T30 t196 0).f0) == (rd y143 (ji8)) && (((rd_T30 t196 0).f1) == x155001_13)) = true
                                    · rw [if_pos c79] at H
                                      have c79b0 : (((rd_T30 t196 0).f0) == (rd y143 (ji8)) && (((rd_T30 t196 0).f1) == x155001_13)) = true := c79
                                      (try (have c79b1 : decide (((rd_T30 t196 0).f0) = (rd y143 (ji8)) && (((rd_T30 t196 0).f1) == x155001_13)) = true := by simpa using c79))
                                      (try (have c79b2 : (((rd_T30 t196 0).f0) == (rd y143 (ji8)) && (((rd_T30 t196 0).f1) == x155001_13)) = true := by simpa using c79))
                                      clear c79
                                      replace H := Option.bind_eq_some_iff.mp H
                                      obtain ⟨t202, A800, H⟩ := H
                                      replace H : (some t202) = some r := H
                                      have A80 := Aside0.mk A800
                                      clear A800
                                      obtain rfl := Option.some.inj H
                                      try go_wp2_with (first | ((with_reducible refine gate_builtin (b := .append) (xs := #[.tmp 100, .tmp 101]) rfl ?_); (try (refine gate_guard (by rfl) ?_; dsimp only)); at_builtin; refine Kd.R_append (Kd.int .u8) (w0 := w) w.heap.size rfl (.tmp 100) (.tmp 101) 25 5 (.int .u8 0) 1 rfl Try.underlying25 info5 rfl (by decide) (by omega) v149 t147 25 [.int .u8 25] (fun k_ => some k_ ≠ (u13 : Value).ownBlock) (fun _ => False) rfl rfl ?aP (fun _ hk => hk.elim) ?aF ?aO ?aB ?aS ?aL ?_; (case aP => exact rfl); (case aB => exact (by repeat (first | (with_reducible first | exact HB.out | apply below_alloc | apply pw_below_drewN | apply below_drew1 | refine below_set ?_ GE154.out) | exact HB.out))); (case aF => exact (fun k_ hk => Kd.fresh' (Kd.R_lt (by (with_reducible repeat (first | apply Kd.R_alloc | apply Kd.R_drewN | apply Kd.R_drew)); exact HO_13.out)) k_ hk)); (case aO => exact (by (with_reducible repeat (first | apply Kd.R_alloc | apply Kd.R_drewN | apply Kd.R_drew)); exact HO_11.out)); (case aS => exact (below_size (by repeat (first | (with_reducible first | exact HB.out | apply below_alloc | apply pw_below_drewN | apply below_drew1 | refine below_set ?_ GE154.out) | exact HB.out)))); (case aL => have := LMc73.out; omega); intro v191 w81 ho hb hg hat; rw [← Ny190.out] at ho; have n0_ := Aside0.mk (Kd.R_after (ok := (fun _ => True)) (by (with_reducible repeat (first | apply Kd.R_alloc | apply Kd.R_drewN | apply Kd.R_drew)); exact Kd.R_mono HO_13.out (fun _ hk => ⟨trivial, hk⟩)) hg hat); have n1_ := Aside0.mk (blk_grown (g := gb154) (o := .cells #[.int .i64 (rd y143 (ji8)), .int .i64 x155001_13] 30 (0, 0)) (by (with_reducible repeat (first | refine blk_drewN ?_ _ | refine blk_drew ?_ | refine blk_alloc ?_ _)); exact BK154.out) hg (Kd.R_ne HO_11.out BK154.out (by decide))); have n2_ := Aside0.mk (hb); have n3_ := Aside0.mk (ho); clear HO_13; clear BK154; clear HB; clear HO_11; have HO_13 := n0_; have BK154 := n1_; have HB := n2_; have HO192 := n3_; clear n0_ n1_ n2_ n3_; clear ho hb hg hat; obtain ⟨Ao83, co83, eo83⟩ := Kd.R_slice HO_13.out; subst eo83) | ((with_reducible refine gate_builtin (b := .append) (xs := #[.tmp 110, .tmp 111]) rfl ?_); (try (refine gate_guard (by rfl) ?_; dsimp only)); at_builtin; refine Kd.R_append_rows (Kd.int .u8) (w0 := w) w.heap.size rfl (.tmp 110) (.tmp 111) 25 5 (.int .u8 0) 1 rfl Try.underlying25 info5 rfl (by decide) (by omega) v191 y190 x13_13 _ _ _ (fun k_ => some k_ ≠ (.slice Ao83 x13_13.length co83 : Value).ownBlock) (fun _ => False) rfl rfl ?aO ?aR (fun _ _ h => h) (fun _ h => h.elim) ?aF ?aB ?aS ?aL ?_; (case aR => repeat (first | exact (Kd.R_reads' HO_13.out).2.2 | (with_reducible refine Kd.C_alloc ?_ _) | (with_reducible refine Kd.C_drewN ?_ _) | (with_reducible refine Kd.C_drew ?_))); (case aB => exact (by repeat (first | (with_reducible first | exact HB.out | apply below_alloc | apply pw_below_drewN | apply below_drew1 | refine below_set ?_ GE154.out) | exact HB.out))); (case aF => exact (fun k_ hk => Kd.fresh' (Kd.R_lt (by (with_reducible repeat (first | apply Kd.R_alloc | apply Kd.R_drewN | apply Kd.R_drew)); exact HO_13.out)) k_ hk)); (case aO => exact (by (with_reducible repeat (first | apply Kd.R_alloc | apply Kd.R_drewN | apply Kd.R_drew)); exact HO192.out)); (case aS => exact (below_size (by repeat (first | (with_reducible first | exact HB.out | apply below_alloc | apply pw_below_drewN | apply below_drew1 | refine below_set ?_ GE154.out) | exact HB.out)))); (case aL => have := LMc74.out; omega); intro v194 w82 ho hb hg hat; rw [← Ny193.out] at ho; have n0_ := Aside0.mk (Kd.R_after (ok := (fun _ => True)) (by (with_reducible repeat (first | apply Kd.R_alloc | apply Kd.R_drewN | apply Kd.R_drew)); exact HO_13.out) hg hat); have n1_ := Aside0.mk (blk_grown (g := gb154) (o := .cells #[.int .i64 (rd y143 (ji8)), .int .i64 x155001_13] 30 (0, 0)) (by (with_reducible repeat (first | refine blk_drewN ?_ _ | refine blk_drew ?_ | refine blk_alloc ?_ _)); exact BK154.out) hg (Kd.R_ne HO192.out BK154.out (by decide))); have n2_ := Aside0.mk (hb); have n3_ := Aside0.mk (ho); clear HO_13; clear BK154; clear HB; clear HO192; have HO_13 := n0_; have BK154 := n1_; have HB := n2_; have HO195 := n3_; clear n0_ n1_ n2_ n3_; clear ho hb hg hat; obtain ⟨Ao84, co84, eo84⟩ := Kd.R_slice HO195.out; subst eo84) | ((with_reducible refine gate_callee (f := 9) rfl ?_); refine goesL_ (some 113) rfl rfl Try.func9 (by kernel_rfl) rfl #[.slice Ao84 y193.length co84] rfl (by (try simp only [List.map_toArray, List.map_cons, List.map_nil]); first | done | rfl | (simp only [List.length_drop, List.length_take]; rfl)) ?_; (with_reducible refine (shift_Tokens.calls _ _ y193 t196 t197 t198 _ ?side1 ?side2 A75.out).mono ?_); (case side1 => repeat (first | exact (Kd.R_reads' HO195.out).2.2 | (with_reducible refine Kd.C_alloc ?_ _) | (with_reducible refine Kd.C_drewN ?_ _) | (with_reducible refine Kd.C_drew ?_))); (case side2 => exact (Kd.R_reads' HO195.out).2.1); rintro e w85 ⟨v199, rfl, ho0, hb⟩; refine ⟨_, rfl, ?_⟩; have n0_ := Aside0.mk (Kd.R_below (by (with_reducible repeat (first | apply Kd.R_alloc | apply Kd.R_drewN | apply Kd.R_drew)); exact HO_13.out) hb); have n1_ := Aside0.mk (Kd.R_below (by (with_reducible repeat (first | apply Kd.R_alloc | apply Kd.R_drewN | apply Kd.R_drew)); exact HO195.out) hb); have n2_ := Aside0.mk (Kd.R_lower (Kd.R_newB ho0 (g := gb154) (o := .cells #[.int .i64 (rd y143 (ji8)), .int .i64 x155001_13] 30 (0, 0)) (by (with_reducible repeat (first | refine blk_drewN ?_ _ | refine blk_drew ?_ | refine blk_alloc ?_ _)); exact BK154.out)) (below_size (by repeat (first | (with_reducible first | exact HB.out | apply below_alloc | apply pw_below_drewN | apply below_drew1 | refine below_set ?_ GE154.out) | exact HB.out)))); have n3_ := Aside0.mk (blk_below (g := gb154) (o := .cells #[.int .i64 (rd y143 (ji8)), .int .i64 x155001_13] 30 (0, 0)) (by (with_reducible repeat (first | refine blk_drewN ?_ _ | refine blk_drew ?_ | refine blk_alloc ?_ _)); exact BK154.out) hb); have n4_ := Aside0.mk (below_step (by repeat (first | (with_reducible first | exact HB.out | apply below_alloc | apply pw_below_drewN | apply below_drew1 | refine below_set ?_ GE154.out) | exact HB.out)) hb); clear HO_13; clear HO195; clear BK154; clear HB; have HO_13 := n0_; have HO195 := n1_; have HO200 := n2_; have BK154 := n3_; have HB := n4_; clear n0_ n1_ n2_ n3_ n4_; (try clear hb); (try clear hb2); (try clear hk); (try clear hi); (try clear ho0)))
                                      have n0_ := Aside0.mk (Kd.R_drew HO_13.out)
                                      have n1_ := Aside0.mk (Kd.R_drew HO195.out)
                                      have n2_ := Aside0.mk (Kd.R_drew HO200.out)
                                      have n3_ := Aside0.mk (blk_drew BK154.out)
                                      have n4_ := Aside0.mk (below_drew1 HB.out)
                                      clear HO_13
                                      clear HO195
                                      clear HO200
                                      clear BK154
                                      clear HB
                                      have HO_13 := n0_
                                      have HO195 := n1_
                                      have HO200 := n2_
                                      have BK154 := n3_
                                      have HB := n4_
                                      clear n0_ n1_ n2_ n3_ n4_
                                      obtain ⟨Ao87, co87, eo87⟩ := Kd.R_slice HO200.out
                                      (first | subst eo87 | (injection eo87 with f1_ f2_ f3_; have f4_ := f1_.symm; have f5_ := f3_.symm; clear f1_ f2_ f3_; subst f4_; subst f5_))
                                      have p201 : 0 ≤ (0 : Int) := (by omega)
                                      have q201 : 0 < (t196.length : Int) := of_decide_eq_true (by first | (with_reducible assumption) | assumption)
                                      obtain ⟨ad201, e201, hx201_0, hx201_1⟩ := at_T30 (Kd.R_reads' HO200.out).2.2 0 p201 q201
                                      cases e201
                                      have qi201 : (0 < t196.length) = True := eq_true (by omega)
                                      (try rw [show ((0 : Int)).toNat = 0 from rfl] at hx201_0)
                                      (try rw [show 0 * 2 = 0 from rfl] at hx201_0)
                                      (try rw [Addr.add_zero'] at hx201_0)
                                      (try rw [show ((0 : Int)).toNat = 0 from rfl] at hx201_1)
                                      (try rw [show 0 * 2 = 0 from rfl] at hx201_1)
                                      (try rw [Addr.add_zero'] at hx201_1)
                                      replace p201 := eq_true p201
                                      replace q201 := eq_true q201
                                      refine start_ (n := 18) (S := fun w' => w'.cell? ⟨gb154, 0, none⟩ = some (.int .i64 (rd y143 (ji8))) ∧ w'.cell? ⟨gb154, 1, none⟩ = some (.int .i64 x155001_13) ∧ w'.cell? ad201 = some (.int .i64 ((rd_T30 t196 0).f0)) ∧ w'.cell? ⟨ad201.block, ad201.off + 1, none⟩ = some (.int .i64 ((rd_T30 t196 0).f1))) (ds := []) #[false, false, false, false, false, false, false, false, false, false, false, false, false, false, false, false, false, false] (by kernel_rfl) rfl rfl ⟨(blk_cell BK154.out 0).trans rfl, (blk_cell BK154.out 1).trans rfl, hx201_0, hx201_1⟩ (fun hHeld => ?_); refine with_tabW sobriquetlaw17_ShiftSets.tab25 sobriquetlaw17_ShiftSets.bits25 (fun HT_ HW_ => ?_)
                                      generalize w85.drew = w86 at HO_13 HO195 HO200 BK154 HB hx201_0 hx201_1 hHeld ⊢
                                      refine pure_ (i := 0) (N := some 117) (v := ?_) (a' := ?_) #[true, false, false, false, false, false, false, false, false, false, false, false, false, false, false, false, false, false] rfl rfl (any_of HT_.out (by kernel_rfl)) (fun _ _ _ h => h) (Or.inl ⟨by rfl, ?_⟩) ?_ ?_
                                      rotate_left
                                      · intro w'
                                        go_simp
                                        with_reducible rfl
                                      rotate_left
                                      · simp only [Act.put, List.setIfInBounds_toArray, List.set_cons_zero, List.set_cons_succ, i64_w, i32_w]
                                        rfl
                                      refine pure_ (i := 1) (N := some 118) (v := ?_) (a' := ?_) #[true, true, false, false, false, false, false, false, false, false, false, false, false, false, false, false, false, false] rfl rfl (any_of HT_.out (by kernel_rfl)) (fun _ _ _ h => h) (Or.inl ⟨by rfl, ?_⟩) ?_ ?_
                                      rotate_left
                                      · intro w'
                                        go_simp
                                        with_reducible rfl
                                      rotate_left
                                      · simp only [Act.put, List.setIfInBounds_toArray, List.set_cons_zero, List.set_cons_succ, i64_w, i32_w]
                                        rfl
                                      refine pure_ (i := 2) (N := some 119) (v := ?_) (a' := ?_) #[true, true, true, false, false, false, false, false, false, false, false, false, false, false, false, false, false, false] rfl rfl (any_of HT_.out (by kernel_rfl)) (fun _ _ _ h => h) (Or.inl ⟨by rfl, ?_⟩) ?_ ?_
                                      rotate_left
                                      · intro w'
                                        go_simp
                                        with_reducible rfl
                                      rotate_left
                                      · simp only [Act.put, List.setIfInBounds_toArray, List.set_cons_zero, List.set_cons_succ, i64_w, i32_w]
                                        rfl
                                      refine pure_ (i := 3) (N := some 120) (v := ?_) (a' := ?_) #[true, true, true, true, false, false, false, false, false, false, false, false, false, false, false, false, false, false] rfl rfl (any_of HT_.out (by kernel_rfl)) (fun _ _ _ h => h) (Or.inl ⟨by rfl, ?_⟩) ?_ ?_
                                      rotate_left
                                      · intro w'
                                        go_simp
                                        with_reducible rfl
                                      rotate_left
                                      · simp only [Act.put, List.setIfInBounds_toArray, List.set_cons_zero, List.set_cons_succ, i64_w, i32_w]
                                        rfl
                                      refine pure_ (i := 4) (N := some 121) (v := ?_) (a' := ?_) #[true, true, true, true, true, false, false, false, false, false, false, false, false, false, false, false, false, false] rfl rfl (any_of HT_.out (by kernel_rfl)) (fun _ _ _ h => h) (Or.inl ⟨by rfl, ?_⟩) ?_ ?_
                                      rotate_left
                                      · intro w'
                                        go_simp
                                        with_reducible rfl
                                      rotate_left
                                      · simp only [Act.put, List.setIfInBounds_toArray, List.set_cons_zero, List.set_cons_succ, i64_w, i32_w]
                                        rfl
                                      refine pure_ (i := 5) (N := some 122) (v := ?_) (a' := ?_) #[true, true, true, true, true, true, false, false, false, false, false, false, false, false, false, false, false, false] rfl rfl (any_of HT_.out (by kernel_rfl)) (fun _ _ _ h => h) (Or.inl ⟨by rfl, ?_⟩) ?_ ?_
                                      rotate_left
                                      · intro w'
                                        go_simp
                                        with_reducible rfl
                                      rotate_left
                                      · simp only [Act.put, List.setIfInBounds_toArray, List.set_cons_zero, List.set_cons_succ, i64_w, i32_w]
                                        rfl
                                      refine pure_ (i := 6) (N := some 123) (v := ?_) (a' := ?_) #[true, true, true, true, true, true, true, false, false, false, false, false, false, false, false, false, false, false] rfl rfl (any_of HT_.out (by kernel_rfl)) (fun _ _ _ h => h) (Or.inl ⟨by rfl, ?_⟩) ?_ ?_
                                      rotate_left
                                      · intro w'
                                        go_simp
                                        with_reducible rfl
                                      rotate_left
                                      · simp only [Act.put, List.setIfInBounds_toArray, List.set_cons_zero, List.set_cons_succ, i64_w, i32_w]
                                        rfl
                                      refine pure_ (i := 7) (N := some 124) (v := ?_) (a' := ?_) #[true, true, true, true, true, true, true, true, false, false, false, false, false, false, false, false, false, false] rfl rfl (any_of HT_.out (by kernel_rfl)) (fun _ _ _ h => h) (Or.inl ⟨by rfl, ?_⟩) ?_ ?_
                                      rotate_left
                                      · intro w'
                                        go_simp
                                        with_reducible rfl
                                      rotate_left
                                      · simp only [Act.put, List.setIfInBounds_toArray, List.set_cons_zero, List.set_cons_succ, i64_w, i32_w]
                                        rfl
                                      refine pure_ (i := 8) (N := some 125) (v := ?_) (a' := ?_) #[true, true, true, true, true, true, true, true, true, false, false, false, false, false, false, false, false, false] rfl rfl (any_of HT_.out (by kernel_rfl)) (fun _ _ _ h => h) (Or.inl ⟨by rfl, ?_⟩) ?_ ?_
                                      rotate_left
                                      · intro w'
                                        go_simp
                                        with_reducible rfl
                                      rotate_left
                                      · simp only [Act.put, List.setIfInBounds_toArray, List.set_cons_zero, List.set_cons_succ, i64_w, i32_w]
                                        rfl
                                      refine pure_ (i := 9) (N := some 126) (v := ?_) (a' := ?_) #[true, true, true, true, true, true, true, true, true, true, false, false, false, false, false, false, false, false] rfl rfl (any_of HT_.out (by kernel_rfl)) (fun _ _ _ h => h) (Or.inl ⟨by rfl, ?_⟩) ?_ ?_
                                      rotate_left
                                      · intro w'
                                        go_simp
                                        with_reducible rfl
                                      rotate_left
                                      · simp only [Act.put, List.setIfInBounds_toArray, List.set_cons_zero, List.set_cons_succ, i64_w, i32_w]
                                        rfl
                                      refine take_ (i := 10) (N := some 127) (v := ?_) (a' := ?_) #[true, true, true, true, true, true, true, true, true, true, true, false, false, false, false, false, false, false] rfl rfl (take_ofW HT_.out HW_.out (by kernel_rfl)) (fun _ _ _ h => h) (Or.inl ⟨by rfl, ?_⟩) hHeld ?_ ?_
                                      rotate_left
                                      · rintro w' ⟨s0, s1, s2, s3⟩
                                        go_simp
                                        with_reducible rfl
                                      rotate_left
                                      · simp only [Act.put, List.setIfInBounds_toArray, List.set_cons_zero, List.set_cons_succ, i64_w, i32_w]
                                        rfl
                                      refine take_ (i := 11) (N := some 128) (v := ?_) (a' := ?_) #[true, true, true, true, true, true, true, true, true, true, true, true, false, false, false, false, false, false] rfl rfl (take_ofW HT_.out HW_.out (by kernel_rfl)) (fun _ _ _ h => h) (Or.inl ⟨by rfl, ?_⟩) hHeld ?_ ?_
                                      rotate_left
                                      · rintro w' ⟨s0, s1, s2, s3⟩
                                        go_simp
                                        with_reducible rfl
                                      rotate_left
                                      · simp only [Act.put, List.setIfInBounds_toArray, List.set_cons_zero, List.set_cons_succ, i64_w, i32_w]
                                        rfl
                                      refine pure_ (i := 12) (N := some 129) (v := ?_) (a' := ?_) #[true, true, true, true, true, true, true, true, true, true, true, true, true, false, false, false, false, false] rfl rfl (any_of HT_.out (by kernel_rfl)) (fun _ _ _ h => h) (Or.inl ⟨by rfl, ?_⟩) ?_ ?_
                                      rotate_left
                                      · intro w'
                                        go_simp
                                        with_reducible rfl
                                      rotate_left
                                      · simp only [Act.put, List.setIfInBounds_toArray, List.set_cons_zero, List.set_cons_succ, i64_w, i32_w]
                                        rfl
                                      refine pure_ (i := 13) (N := some 130) (v := ?_) (a' := ?_) #[true, true, true, true, true, true, true, true, true, true, true, true, true, true, false, false, false, false] rfl rfl (any_of HT_.out (by kernel_rfl)) (fun _ _ _ h => h) (Or.inl ⟨by rfl, ?_⟩) ?_ ?_
                                      rotate_left
                                      · intro w'
                                        go_simp
                                        with_reducible rfl
                                      rotate_left
                                      · simp only [Act.put, List.setIfInBounds_toArray, List.set_cons_zero, List.set_cons_succ, i64_w, i32_w]
                                        rfl
                                      refine pure_ (i := 14) (N := some 131) (v := ?_) (a' := ?_) #[true, true, true, true, true, true, true, true, true, true, true, true, true, true, true, false, false, false] rfl rfl (any_of HT_.out (by kernel_rfl)) (fun _ _ _ h => h) (Or.inl ⟨by rfl, ?_⟩) ?_ ?_
                                      rotate_left
                                      · intro w'
                                        go_simp
                                        with_reducible rfl
                                      rotate_left
                                      · simp only [Act.put, List.setIfInBounds_toArray, List.set_cons_zero, List.set_cons_succ, i64_w, i32_w]
                                        rfl
                                      refine one_ (i := 15) (N := some 132) #[true, true, true, true, true, true, true, true, true, true, true, true, true, true, true, true, false, false] rfl rfl (one_of HT_.out (by kernel_rfl)) (by decide) (fun K hK => ?_)
                                      refine goes_ Try.func10 (by kernel_rfl) rfl #[] (by rfl) rfl rfl (by (try simp only [List.map_toArray, List.map_cons, List.map_nil]); first | done | rfl | (simp only [List.length_drop, List.length_take]; rfl)) ?_
                                      with_reducible refine (sobriquetlaw17_wakes.calls kj26  t202 _ A80.out (by first | exact hrt.out | rfl)).mono ?_
                                      rintro e w88 ⟨rfl, hb⟩
                                      have HS2_ := (hb.cell (World.block_lt_of_cell? _ _ (hHeld.2.2.1))).trans (hHeld.2.2.1)
                                      have HS3_ := (hb.cell (World.block_lt_of_cell? _ _ (hHeld.2.2.2))).trans (hHeld.2.2.2)
                                      refine ⟨_, rfl, ?_⟩
                                      have n0_ := Aside0.mk (Kd.R_below (by (with_reducible repeat (first | apply Kd.R_alloc | apply Kd.R_drewN | apply Kd.R_drew)); exact HO_13.out) hb)
                                      have n1_ := Aside0.mk (Kd.R_below (by (with_reducible repeat (first | apply Kd.R_alloc | apply Kd.R_drewN | apply Kd.R_drew)); exact HO195.out) hb)
                                      have n2_ := Aside0.mk (Kd.R_below (by (with_reducible repeat (first | apply Kd.R_alloc | apply Kd.R_drewN | apply Kd.R_drew)); exact HO200.out) hb)
                                      have n3_ := Aside0.mk (blk_below (g := gb154) (o := .cells #[.int .i64 (rd y143 (ji8)), .int .i64 x155001_13] 30 (0, 0)) (by (with_reducible repeat (first | refine blk_drewN ?_ _ | refine blk_drew ?_ | refine blk_alloc ?_ _)); exact BK154.out) hb)
                                      have n4_ := Aside0.mk (below_step (by repeat (first | (with_reducible first | exact HB.out | apply below_alloc | apply pw_below_drewN | apply below_drew1 | refine below_set ?_ GE154.out) | exact HB.out)) hb)
                                      clear HO_13
                                      clear HO195
                                      clear HO200
                                      clear BK154
                                      clear HB
                                      have HO_13 := n0_
                                      have HO195 := n1_
                                      have HO200 := n2_
                                      have BK154 := n3_
                                      have HB := n4_
                                      clear n0_ n1_ n2_ n3_ n4_
                                      (try clear hb)
                                      (try clear hb2)
                                      (try clear hk)
                                      (try clear hi)
                                      refine hK.out _ _ ⟨(blk_cell BK154.out 0).trans rfl, (blk_cell BK154.out 1).trans rfl, HS2_, HS3_⟩ (fun hHeld => ?_)
                                      clear hK K
                                      refine norm_ (a' := ?_) ?_ ?_
                                      rotate_left
                                      · show Act.put _ (some 132) _ = _
                                        simp only [Act.put, List.setIfInBounds_toArray, List.set_cons_zero, List.set_cons_succ, i64_w, i32_w]
                                        rfl
                                      refine pure_ (i := 16) (N := some 133) (v := ?_) (a' := ?_) #[true, true, true, true, true, true, true, true, true, true, true, true, true, true, true, true, true, false] rfl rfl (any_of HT_.out (by kernel_rfl)) (fun _ _ _ h => h) (Or.inl ⟨by rfl, ?_⟩) ?_ ?_
                                      rotate_left
                                      · intro w'
                                        go_simp
                                        with_reducible rfl
                                      rotate_left
                                      · simp only [Act.put, List.setIfInBounds_toArray, List.set_cons_zero, List.set_cons_succ, i64_w, i32_w]
                                        rfl
                                      refine pure_ (i := 17) (N := some 8) (v := ?_) (a' := ?_) #[true, true, true, true, true, true, true, true, true, true, true, true, true, true, true, true, true, true] rfl rfl (any_of HT_.out (by kernel_rfl)) (fun _ _ _ h => h) (Or.inl ⟨by rfl, ?_⟩) ?_ ?_
                                      rotate_left
                                      · intro w'
                                        go_simp
                                        with_reducible rfl
                                      rotate_left
                                      · simp only [Act.put, List.setIfInBounds_toArray, List.set_cons_zero, List.set_cons_succ, i64_w, i32_w]
                                        rfl
                                      refine done_ (done_of HT_.out (by kernel_rfl)) ?_
                                      try go_wp2
                                      go_ret
                                      exact ⟨by first | rfl | (simp [errW_none, errW_some] <;> rfl) | (simp only [← hji8]; first | rfl | (simp [errW_none, errW_some] <;> rfl)) | (simp [*, errW_none, errW_some] <;> rfl), by repeat (first | (with_reducible first | exact HB.out | apply below_alloc | apply pw_below_drewN | apply below_drew1 | refine below_set ?_ GE154.out) | exact HB.out)⟩
                                    · rw [if_neg c79] at H
                                      have c79b0 : (((rd_T30 t196 0).f0) == (rd y143 (ji8)) && (((rd_T30 t196 0).f1) == x155001_13)) = false := by simpa using c79
                                      (try (have c79b1 : decide (((rd_T30 t196 0).f0) = (rd y143 (ji8)) && (((rd_T30 t196 0).f1) == x155001_13)) = false := by simpa using c79))
                                      (try (have c79b2 : (((rd_T30 t196 0).f0) == (rd y143 (ji8)) && (((rd_T30 t196 0).f1) == x155001_13)) = false := by simpa using c79))
                                      (try (have c79b3 : ¬ (((rd_T30 t196 0).f0) = (rd y143 (ji8)) && (((rd_T30 t196 0).f1) == x155001_13)) := by simpa using c79))
                                      clear c79
                                      exact absurd ((Option.some.inj H).trans hrt.out) (by decide)
                                  · rw [if_neg c78] at H
                                    exact absurd H (by simp)
                                · rw [if_neg c77] at H
                                  have c77b0 : ((t196.length : Int) == 1) = false := beq_eq_false_iff_ne.mpr c77
                                  have c77b1 : ((t196.length : Int) != 1) = true := bne_iff_ne.mpr c77
                                  exact absurd ((Option.some.inj H).trans hrt.out) (by decide)
                              · rw [if_neg c76] at H
                                have c76b0 : (t198 == 0) = false := beq_eq_false_iff_ne.mpr c76
                                have c76b1 : (t198 != 0) = true := bne_iff_ne.mpr c76
                                exact absurd ((Option.some.inj H).trans hrt.out) (by decide)
                            · rw [if_neg c74] at H
                              exact absurd H (by simp)
                          · rw [if_neg c73] at H
                            exact absurd H (by simp)
                        · rw [if_neg c72] at H
                          have c72b0 : ((wrap64 (Int.tmod (IntKind.u64.wrap (a1)) 4)) == 2) = false := beq_eq_false_iff_ne.mpr c72
                          have c72b1 : ((wrap64 (Int.tmod (IntKind.u64.wrap (a1)) 4)) != 2) = true := bne_iff_ne.mpr c72
                          by_cases c89 : (wrap64 (Int.tmod (IntKind.u64.wrap (a1)) 4)) = 3
                          · rw [if_pos c89] at H
                            have c89b0 : ((wrap64 (Int.tmod (IntKind.u64.wrap (a1)) 4)) == 3) = true := beq_iff_eq.mpr c89
                            have c89b1 : ((wrap64 (Int.tmod (IntKind.u64.wrap (a1)) 4)) != 3) = false := bne_eq_false_iff_eq.mpr c89
                            clear c89
                            by_cases c90 : t147.length < 140737488355328
                            · rw [if_pos c90] at H
                              have LMc90 := Aside0.mk c90
                              clear c90
                              obtain ⟨y203, hy203⟩ : ∃ y_ : List Int, y_ = (t147 ++ [29]) := ⟨_, rfl⟩
                              replace H : (if y203.length + x13_13.length < 140737488355328 then ((shift_Tokens.f (y203 ++ x13_13)).bind fun bt209 => (if bt209.2.2 = 0 then (if (bt209.1.length : Int) = 1 then (if 0 < (bt209.1.length : Int) then (if (((rd_T30 bt209.1 0).f0) == (rd y143 (ji8)) && (((rd_T30 bt209.1 0).f1) == x155001_13)) = true then ((sobriquetlaw17_wakes.f kj26).bind fun t215 => (some t215)) else (some false)) else (none)) else (some false)) else (some false))) else (none)) = some r := by first | (rw [hy203]; with_reducible exact H) | (have H2_ := (Option.bind_some _ _).symm.trans H; rw [hy203]; with_reducible exact H2_) | (have H2_ := (Option.bind_some _ _).symm.trans H; with_reducible exact H2_) | with_reducible exact H | (rw [hy203]; exact H) | exact H
                              have Ny203 := Aside0.mk hy203
                              clear hy203
                              by_cases c91 : y203.length + x13_13.length < 140737488355328
                              · rw [if_pos c91] at H
                                have LMc91 := Aside0.mk c91
                                clear c91
                                obtain ⟨y206, hy206⟩ : ∃ y_ : List Int, y_ = (y203 ++ x13_13) := ⟨_, rfl⟩
                                replace H : ((shift_Tokens.f y206).bind fun bt209 => (if bt209.2.2 = 0 then (if (bt209.1.length : Int) = 1 then (if 0 < (bt209.1.length : Int) then (if (((rd_T30 bt209.1 0).f0) == (rd y143 (ji8)) && (((rd_T30 bt209.1 0).f1) == x155001_13)) = true then ((sobriquetlaw17_wakes.f kj26).bind fun t215 => (some t215)) else (some false)) else (none)) else (some false)) else (some false))) = some r := by first | (rw [hy206]; with_reducible exact H) | (have H2_ := (Option.bind_some _ _).symm.trans H; rw [hy206]; with_reducible exact H2_) | (have H2_ := (Option.bind_some _ _).symm.trans H; with_reducible exact H2_) | with_reducible exact H | (rw [hy206]; exact H) | exact H
                                have Ny206 := Aside0.mk hy206
                                clear hy206
                                replace H := Option.bind_eq_some_iff.mp H
                                obtain ⟨⟨t209, t210, t211⟩, A920, H⟩ := H
                                replace H : (if t211 = 0 then (if (t209.length : Int) = 1 then (if 0 < (t209.length : Int) then (if (((rd_T30 t209 0).f0) == (rd y143 (ji8)) && (((rd_T30 t209 0).f1) == x155001_13)) = true then ((sobriquetlaw17_wakes.f kj26).bind fun t215 => (some t215)) else (some false)) else (none)) else (some false)) else (some false)) = some r := H
                                have A92 := Aside0.mk A920
                                clear A920
                                by_cases c93 : t211 = 0
                                · rw [if_pos c93] at H
                                  have c93b0 : (t211 == 0) = true := beq_iff_eq.mpr c93
                                  have c93b1 : (t211 != 0) = false := bne_eq_false_iff_eq.mpr c93
                                  clear c93
                                  by_cases c94 : (t209.length : Int) = 1
                                  · rw [if_pos c94] at H
                                    have c94b0 : ((t209.length : Int) == 1) = true := beq_iff_eq.mpr c94
                                    have c94b1 : ((t209.length : Int) != 1) = false := bne_eq_false_iff_eq.mpr c94
                                    clear c94
                                    by_cases c95 : 0 < (t209.length : Int)
                                    · rw [if_pos c95] at H
                                      have c95b0 : decide (0 < (t209.length : Int)) = true := decide_eq_true c95
                                      have c95b1 : decide (0 < t209.length) = true := decide_eq_true (by omega)
                                      clear c95
                                      by_cases c96 : (((rd_T30 t209 0).f0) == (rd y143 (ji8)) && (((rd_T30 t209 0).f1) == x155001_13)) = true
                                      · rw [if_pos c96] at H
                                        have c96b0 : (((rd_T30 t209 0).f0) == (rd y143 (ji8)) && (((rd_T30 t209 0).f1) == x155001_13)) = true := c96
                                        (try (have c96b1 : decide (((rd_T30 t209 0).f0) = (rd y143 (ji8)) && (((rd_T30 t209 0).f1) == x155001_13)) = true := by simpa using c96))
                                        (try (have c96b2 : (((rd_T30 t209 0).f0) == (rd y143 (ji8)) && (((rd_T30 t209 0).f1) == x155001_13)) = true := by simpa using c96))
                                        clear c96
                                        replace H := Option.bind_eq_some_iff.mp H
                                        obtain ⟨t215, A970, H⟩ := H
                                        replace H : (some t215) = some r := H
                                        have A97 := Aside0.mk A970
                                        clear A970
                                        obtain rfl := Option.some.inj H
                                        try go_wp2_with (first | ((with_reducible refine gate_builtin (b := .append) (xs := #[.tmp 106, .tmp 107]) rfl ?_); (try (refine gate_guard (by rfl) ?_; dsimp only)); at_builtin; refine Kd.R_append (Kd.int .u8) (w0 := w) w.heap.size rfl (.tmp 106) (.tmp 107) 25 5 (.int .u8 0) 1 rfl Try.underlying25 info5 rfl (by decide) (by omega) v149 t147 29 [.int .u8 29] (fun k_ => some k_ ≠ (u13 : Value).ownBlock) (fun _ => False) rfl rfl ?aP (fun _ hk => hk.elim) ?aF ?aO ?aB ?aS ?aL ?_; (case aP => exact rfl); (case aB => exact (by repeat (first | (with_reducible first | exact HB.out | apply below_alloc | apply pw_below_drewN | apply below_drew1 | refine below_set ?_ GE154.out) | exact HB.out))); (case aF => exact (fun k_ hk => Kd.fresh' (Kd.R_lt (by (with_reducible repeat (first | apply Kd.R_alloc | apply Kd.R_drewN | apply Kd.R_drew)); exact HO_13.out)) k_ hk)); (case aO => exact (by (with_reducible repeat (first | apply Kd.R_alloc | apply Kd.R_drewN | apply Kd.R_drew)); exact HO_11.out)); (case aS => exact (below_size (by repeat (first | (with_reducible first | exact HB.out | apply below_alloc | apply pw_below_drewN | apply below_drew1 | refine below_set ?_ GE154.out) | exact HB.out)))); (case aL => have := LMc90.out; omega); intro v204 w98 ho hb hg hat; rw [← Ny203.out] at ho; have n0_ := Aside0.mk (Kd.R_after (ok := (fun _ => True)) (by (with_reducible repeat (first | apply Kd.R_alloc | apply Kd.R_drewN | apply Kd.R_drew)); exact Kd.R_mono HO_13.out (fun _ hk => ⟨trivial, hk⟩)) hg hat); have n1_ := Aside0.mk (blk_grown (g := gb154) (o := .cells #[.int .i64 (rd y143 (ji8)), .int .i64 x155001_13] 30 (0, 0)) (by (with_reducible repeat (first | refine blk_drewN ?_ _ | refine blk_drew ?_ | refine blk_alloc ?_ _)); exact BK154.out) hg (Kd.R_ne HO_11.out BK154.out (by decide))); have n2_ := Aside0.mk (hb); have n3_ := Aside0.mk (ho); clear HO_13; clear BK154; clear HB; clear HO_11; have HO_13 := n0_; have BK154 := n1_; have HB := n2_; have HO205 := n3_; clear n0_ n1_ n2_ n3_; clear ho hb hg hat; obtain ⟨Ao100, co100, eo100⟩ := Kd.R_slice HO_13.out; subst eo100) | ((with_reducible refine gate_builtin (b := .append) (xs := #[.tmp 110, .tmp 111]) rfl ?_); (try (refine gate_guard (by rfl) ?_; dsimp only)); at_builtin; refine Kd.R_append_rows (Kd.int .u8) (w0 := w) w.heap.size rfl (.tmp 110) (.tmp 111) 25 5 (.int .u8 0) 1 rfl Try.underlying25 info5 rfl (by decide) (by omega) v204 y203 x13_13 _ _ _ (fun k_ => some k_ ≠ (.slice Ao100 x13_13.length co100 : Value).ownBlock) (fun _ => False) rfl rfl ?aO ?aR (fun _ _ h => h) (fun _ h => h.elim) ?aF ?aB ?aS ?aL ?_; (case aR => repeat (first | exact (Kd.R_reads' HO_13.out).2.2 | (with_reducible refine Kd.C_alloc ?_ _) | (with_reducible refine Kd.C_drewN ?_ _) | (with_reducible refine Kd.C_drew ?_))); (case aB => exact (by repeat (first | (with_reducible first | exact HB.out | apply below_alloc | apply pw_below_drewN | apply below_drew1 | refine below_set ?_ GE154.out) | exact HB.out))); (case aF => exact (fun k_ hk => Kd.fresh' (Kd.R_lt (by (with_reducible repeat (first | apply Kd.R_alloc | apply Kd.R_drewN | apply Kd.R_drew)); exact HO_13.out)) k_ hk)); (case aO => exact (by (with_reducible repeat (first | apply Kd.R_alloc | apply Kd.R_drewN | apply Kd.R_drew)); exact HO205.out)); (case aS => exact (below_size (by repeat (first | (with_reducible first | exact HB.out | apply below_alloc | apply pw_below_drewN | apply below_drew1 | refine below_set ?_ GE154.out) | exact HB.out)))); (case aL => have := LMc91.out; omega); intro v207 w99 ho hb hg hat; rw [← Ny206.out] at ho; have n0_ := Aside0.mk (Kd.R_after (ok := (fun _ => True)) (by (with_reducible repeat (first | apply Kd.R_alloc | apply Kd.R_drewN | apply Kd.R_drew)); exact HO_13.out) hg hat); have n1_ := Aside0.mk (blk_grown (g := gb154) (o := .cells #[.int .i64 (rd y143 (ji8)), .int .i64 x155001_13] 30 (0, 0)) (by (with_reducible repeat (first | refine blk_drewN ?_ _ | refine blk_drew ?_ | refine blk_alloc ?_ _)); exact BK154.out) hg (Kd.R_ne HO205.out BK154.out (by decide))); have n2_ := Aside0.mk (hb); have n3_ := Aside0.mk (ho); clear HO_13; clear BK154; clear HB; clear HO205; have HO_13 := n0_; have BK154 := n1_; have HB := n2_; have HO208 := n3_; clear n0_ n1_ n2_ n3_; clear ho hb hg hat; obtain ⟨Ao101, co101, eo101⟩ := Kd.R_slice HO208.out; subst eo101) | ((with_reducible refine gate_callee (f := 9) rfl ?_); refine goesL_ (some 113) rfl rfl Try.func9 (by kernel_rfl) rfl #[.slice Ao101 y206.length co101] rfl (by (try simp only [List.map_toArray, List.map_cons, List.map_nil]); first | done | rfl | (simp only [List.length_drop, List.length_take]; rfl)) ?_; (with_reducible refine (shift_Tokens.calls _ _ y206 t209 t210 t211 _ ?side1 ?side2 A92.out).mono ?_); (case side1 => repeat (first | exact (Kd.R_reads' HO208.out).2.2 | (with_reducible refine Kd.C_alloc ?_ _) | (with_reducible refine Kd.C_drewN ?_ _) | (with_reducible refine Kd.C_drew ?_))); (case side2 => exact (Kd.R_reads' HO208.out).2.1); rintro e w102 ⟨v212, rfl, ho0, hb⟩; refine ⟨_, rfl, ?_⟩; have n0_ := Aside0.mk (Kd.R_below (by (with_reducible repeat (first | apply Kd.R_alloc | apply Kd.R_drewN | apply Kd.R_drew)); exact HO_13.out) hb); have n1_ := Aside0.mk (Kd.R_below (by (with_reducible repeat (first | apply Kd.R_alloc | apply Kd.R_drewN | apply Kd.R_drew)); exact HO208.out) hb); have n2_ := Aside0.mk (Kd.R_lower (Kd.R_newB ho0 (g := gb154) (o := .cells #[.int .i64 (rd y143 (ji8)), .int .i64 x155001_13] 30 (0, 0)) (by (with_reducible repeat (first | refine blk_drewN ?_ _ | refine blk_drew ?_ | refine blk_alloc ?_ _)); exact BK154.out)) (below_size (by repeat (first | (with_reducible first | exact HB.out | apply below_alloc | apply pw_below_drewN | apply below_drew1 | refine below_set ?_ GE154.out) | exact HB.out)))); have n3_ := Aside0.mk (blk_below (g := gb154) (o := .cells #[.int .i64 (rd y143 (ji8)), .int .i64 x155001_13] 30 (0, 0)) (by (with_reducible repeat (first | refine blk_drewN ?_ _ | refine blk_drew ?_ | refine blk_alloc ?_ _)); exact BK154.out) hb); have n4_ := Aside0.mk (below_step (by repeat (first | (with_reducible first | exact HB.out | apply below_alloc | apply pw_below_drewN | apply below_drew1 | refine below_set ?_ GE154.out) | exact HB.out)) hb); clear HO_13; clear HO208; clear BK154; clear HB; have HO_13 := n0_; have HO208 := n1_; have HO213 := n2_; have BK154 := n3_; have HB := n4_; clear n0_ n1_ n2_ n3_ n4_; (try clear hb); (try clear hb2); (try clear hk); (try clear hi); (try clear ho0)))
                                        have n0_ := Aside0.mk (Kd.R_drew HO_13.out)
                                        have n1_ := Aside0.mk (Kd.R_drew HO208.out)
                                        have n2_ := Aside0.mk (Kd.R_drew HO213.out)
                                        have n3_ := Aside0.mk (blk_drew BK154.out)
                                        have n4_ := Aside0.mk (below_drew1 HB.out)
                                        clear HO_13
                                        clear HO208
                                        clear HO213
                                        clear BK154
                                        clear HB
                                        have HO_13 := n0_
                                        have HO208 := n1_
                                        have HO213 := n2_
                                        have BK154 := n3_
                                        have HB := n4_
                                        clear n0_ n1_ n2_ n3_ n4_
                                        obtain ⟨Ao104, co104, eo104⟩ := Kd.R_slice HO213.out
                                        (first | subst eo104 | (injection eo104 with f1_ f2_ f3_; have f4_ := f1_.symm; have f5_ := f3_.symm; clear f1_ f2_ f3_; subst f4_; subst f5_))
                                        have p214 : 0 ≤ (0 : Int) := (by omega)
                                        have q214 : 0 < (t209.length : Int) := of_decide_eq_true (by first | (with_reducible assumption) | assumption)
                                        obtain ⟨ad214, e214, hx214_0, hx214_1⟩ := at_T30 (Kd.R_reads' HO213.out).2.2 0 p214 q214
                                        cases e214
                                        have qi214 : (0 < t209.length) = True := eq_true (by omega)
                                        (try rw [show ((0 : Int)).toNat = 0 from rfl] at hx214_0)
                                        (try rw [show 0 * 2 = 0 from rfl] at hx214_0)
                                        (try rw [Addr.add_zero'] at hx214_0)
                                        (try rw [show ((0 : Int)).toNat = 0 from rfl] at hx214_1)
                                        (try rw [show 0 * 2 = 0 from rfl] at hx214_1)
                                        (try rw [Addr.add_zero'] at hx214_1)
                                        replace p214 := eq_true p214
                                        replace q214 := eq_true q214
                                        refine start_ (n := 18) (S := fun w' => w'.cell? ⟨gb154, 0, none⟩ = some (.int .i64 (rd y143 (ji8))) ∧ w'.cell? ⟨gb154, 1, none⟩ = some (.int .i64 x155001_13) ∧ w'.cell? ad214 = some (.int .i64 ((rd_T30 t209 0).f0)) ∧ w'.cell? ⟨ad214.block, ad214.off + 1, none⟩ = some (.int .i64 ((rd_T30 t209 0).f1))) (ds := []) #[false, false, false, false, false, false, false, false, false, false, false, false, false, false, false, false, false, false] (by kernel_rfl) rfl rfl ⟨(blk_cell BK154.out 0).trans rfl, (blk_cell BK154.out 1).trans rfl, hx214_0, hx214_1⟩ (fun hHeld => ?_); refine with_tabW sobriquetlaw17_ShiftSets.tab25 sobriquetlaw17_ShiftSets.bits25 (fun HT_ HW_ => ?_)
                                        generalize w102.drew = w103 at HO_13 HO208 HO213 BK154 HB hx214_0 hx214_1 hHeld ⊢
                                        refine pure_ (i := 0) (N := some 117) (v := ?_) (a' := ?_) #[true, false, false, false, false, false, false, false, false, false, false, false, false, false, false, false, false, false] rfl rfl (any_of HT_.out (by kernel_rfl)) (fun _ _ _ h => h) (Or.inl ⟨by rfl, ?_⟩) ?_ ?_
                                        rotate_left
                                        · intro w'
                                          go_simp
                                          with_reducible rfl
                                        rotate_left
                                        · simp only [Act.put, List.setIfInBounds_toArray, List.set_cons_zero, List.set_cons_succ, i64_w, i32_w]
                                          rfl
                                        refine pure_ (i := 1) (N := some 118) (v := ?_) (a' := ?_) #[true, true, false, false, false, false, false, false, false, false, false, false, false, false, false, false, false, false] rfl rfl (any_of HT_.out (by kernel_rfl)) (fun _ _ _ h => h) (Or.inl ⟨by rfl, ?_⟩) ?_ ?_
                                        rotate_left
                                        · intro w'
                                          go_simp
                                          with_reducible rfl
                                        rotate_left
                                        · simp only [Act.put, List.setIfInBounds_toArray, List.set_cons_zero, List.set_cons_succ, i64_w, i32_w]
                                          rfl
                                        refine pure_ (i := 2) (N := some 119) (v := ?_) (a' := ?_) #[true, true, true, false, false, false, false, false, false, false, false, false, false, false, false, false, false, false] rfl rfl (any_of HT_.out (by kernel_rfl)) (fun _ _ _ h => h) (Or.inl ⟨by rfl, ?_⟩) ?_ ?_
                                        rotate_left
                                        · intro w'
                                          go_simp
                                          with_reducible rfl
                                        rotate_left
                                        · simp only [Act.put, List.setIfInBounds_toArray, List.set_cons_zero, List.set_cons_succ, i64_w, i32_w]
                                          rfl
                                        refine pure_ (i := 3) (N := some 120) (v := ?_) (a' := ?_) #[true, true, true, true, false, false, false, false, false, false, false, false, false, false, false, false, false, false] rfl rfl (any_of HT_.out (by kernel_rfl)) (fun _ _ _ h => h) (Or.inl ⟨by rfl, ?_⟩) ?_ ?_
                                        rotate_left
                                        · intro w'
                                          go_simp
                                          with_reducible rfl
                                        rotate_left
                                        · simp only [Act.put, List.setIfInBounds_toArray, List.set_cons_zero, List.set_cons_succ, i64_w, i32_w]
                                          rfl
                                        refine pure_ (i := 4) (N := some 121) (v := ?_) (a' := ?_) #[true, true, true, true, true, false, false, false, false, false, false, false, false, false, false, false, false, false] rfl rfl (any_of HT_.out (by kernel_rfl)) (fun _ _ _ h => h) (Or.inl ⟨by rfl, ?_⟩) ?_ ?_
                                        rotate_left
                                        · intro w'
                                          go_simp
                                          with_reducible rfl
                                        rotate_left
                                        · simp only [Act.put, List.setIfInBounds_toArray, List.set_cons_zero, List.set_cons_succ, i64_w, i32_w]
                                          rfl
                                        refine pure_ (i := 5) (N := some 122) (v := ?_) (a' := ?_) #[true, true, true, true, true, true, false, false, false, false, false, false, false, false, false, false, false, false] rfl rfl (any_of HT_.out (by kernel_rfl)) (fun _ _ _ h => h) (Or.inl ⟨by rfl, ?_⟩) ?_ ?_
                                        rotate_left
                                        · intro w'
                                          go_simp
                                          with_reducible rfl
                                        rotate_left
                                        · simp only [Act.put, List.setIfInBounds_toArray, List.set_cons_zero, List.set_cons_succ, i64_w, i32_w]
                                          rfl
                                        refine pure_ (i := 6) (N := some 123) (v := ?_) (a' := ?_) #[true, true, true, true, true, true, true, false, false, false, false, false, false, false, false, false, false, false] rfl rfl (any_of HT_.out (by kernel_rfl)) (fun _ _ _ h => h) (Or.inl ⟨by rfl, ?_⟩) ?_ ?_
                                        rotate_left
                                        · intro w'
                                          go_simp
                                          with_reducible rfl
                                        rotate_left
                                        · simp only [Act.put, List.setIfInBounds_toArray, List.set_cons_zero, List.set_cons_succ, i64_w, i32_w]
                                          rfl
                                        refine pure_ (i := 7) (N := some 124) (v := ?_) (a' := ?_) #[true, true, true, true, true, true, true, true, false, false, false, false, false, false, false, false, false, false] rfl rfl (any_of HT_.out (by kernel_rfl)) (fun _ _ _ h => h) (Or.inl ⟨by rfl, ?_⟩) ?_ ?_
                                        rotate_left
                                        · intro w'
                                          go_simp
                                          with_reducible rfl
                                        rotate_left
                                        · simp only [Act.put, List.setIfInBounds_toArray, List.set_cons_zero, List.set_cons_succ, i64_w, i32_w]
                                          rfl
                                        refine pure_ (i := 8) (N := some 125) (v := ?_) (a' := ?_) #[true, true, true, true, true, true, true, true, true, false, false, false, false, false, false, false, false, false] rfl rfl (any_of HT_.out (by kernel_rfl)) (fun _ _ _ h => h) (Or.inl ⟨by rfl, ?_⟩) ?_ ?_
                                        rotate_left
                                        · intro w'
                                          go_simp
                                          with_reducible rfl
                                        rotate_left
                                        · simp only [Act.put, List.setIfInBounds_toArray, List.set_cons_zero, List.set_cons_succ, i64_w, i32_w]
                                          rfl
                                        refine pure_ (i := 9) (N := some 126) (v := ?_) (a' := ?_) #[true, true, true, true, true, true, true, true, true, true, false, false, false, false, false, false, false, false] rfl rfl (any_of HT_.out (by kernel_rfl)) (fun _ _ _ h => h) (Or.inl ⟨by rfl, ?_⟩) ?_ ?_
                                        rotate_left
                                        · intro w'
                                          go_simp
                                          with_reducible rfl
                                        rotate_left
                                        · simp only [Act.put, List.setIfInBounds_toArray, List.set_cons_zero, List.set_cons_succ, i64_w, i32_w]
                                          rfl
                                        refine take_ (i := 10) (N := some 127) (v := ?_) (a' := ?_) #[true, true, true, true, true, true, true, true, true, true, true, false, false, false, false, false, false, false] rfl rfl (take_ofW HT_.out HW_.out (by kernel_rfl)) (fun _ _ _ h => h) (Or.inl ⟨by rfl, ?_⟩) hHeld ?_ ?_
                                        rotate_left
                                        · rintro w' ⟨s0, s1, s2, s3⟩
                                          go_simp
                                          with_reducible rfl
                                        rotate_left
                                        · simp only [Act.put, List.setIfInBounds_toArray, List.set_cons_zero, List.set_cons_succ, i64_w, i32_w]
                                          rfl
                                        refine take_ (i := 11) (N := some 128) (v := ?_) (a' := ?_) #[true, true, true, true, true, true, true, true, true, true, true, true, false, false, false, false, false, false] rfl rfl (take_ofW HT_.out HW_.out (by kernel_rfl)) (fun _ _ _ h => h) (Or.inl ⟨by rfl, ?_⟩) hHeld ?_ ?_
                                        rotate_left
                                        · rintro w' ⟨s0, s1, s2, s3⟩
                                          go_simp
                                          with_reducible rfl
                                        rotate_left
                                        · simp only [Act.put, List.setIfInBounds_toArray, List.set_cons_zero, List.set_cons_succ, i64_w, i32_w]
                                          rfl
                                        refine pure_ (i := 12) (N := some 129) (v := ?_) (a' := ?_) #[true, true, true, true, true, true, true, true, true, true, true, true, true, false, false, false, false, false] rfl rfl (any_of HT_.out (by kernel_rfl)) (fun _ _ _ h => h) (Or.inl ⟨by rfl, ?_⟩) ?_ ?_
                                        rotate_left
                                        · intro w'
                                          go_simp
                                          with_reducible rfl
                                        rotate_left
                                        · simp only [Act.put, List.setIfInBounds_toArray, List.set_cons_zero, List.set_cons_succ, i64_w, i32_w]
                                          rfl
                                        refine pure_ (i := 13) (N := some 130) (v := ?_) (a' := ?_) #[true, true, true, true, true, true, true, true, true, true, true, true, true, true, false, false, false, false] rfl rfl (any_of HT_.out (by kernel_rfl)) (fun _ _ _ h => h) (Or.inl ⟨by rfl, ?_⟩) ?_ ?_
                                        rotate_left
                                        · intro w'
                                          go_simp
                                          with_reducible rfl
                                        rotate_left
                                        · simp only [Act.put, List.setIfInBounds_toArray, List.set_cons_zero, List.set_cons_succ, i64_w, i32_w]
                                          rfl
                                        refine pure_ (i := 14) (N := some 131) (v := ?_) (a' := ?_) #[true, true, true, true, true, true, true, true, true, true, true, true, true, true, true, false, false, false] rfl rfl (any_of HT_.out (by kernel_rfl)) (fun _ _ _ h => h) (Or.inl ⟨by rfl, ?_⟩) ?_ ?_
                                        rotate_left
                                        · intro w'
                                          go_simp
                                          with_reducible rfl
                                        rotate_left
                                        · simp only [Act.put, List.setIfInBounds_toArray, List.set_cons_zero, List.set_cons_succ, i64_w, i32_w]
                                          rfl
                                        refine one_ (i := 15) (N := some 132) #[true, true, true, true, true, true, true, true, true, true, true, true, true, true, true, true, false, false] rfl rfl (one_of HT_.out (by kernel_rfl)) (by decide) (fun K hK => ?_)
                                        refine goes_ Try.func10 (by kernel_rfl) rfl #[] (by rfl) rfl rfl (by (try simp only [List.map_toArray, List.map_cons, List.map_nil]); first | done | rfl | (simp only [List.length_drop, List.length_take]; rfl)) ?_
                                        with_reducible refine (sobriquetlaw17_wakes.calls kj26  t215 _ A97.out (by first | exact hrt.out | rfl)).mono ?_
                                        rintro e w105 ⟨rfl, hb⟩
                                        have HS2_ := (hb.cell (World.block_lt_of_cell? _ _ (hHeld.2.2.1))).trans (hHeld.2.2.1)
                                        have HS3_ := (hb.cell (World.block_lt_of_cell? _ _ (hHeld.2.2.2))).trans (hHeld.2.2.2)
                                        refine ⟨_, rfl, ?_⟩
                                        have n0_ := Aside0.mk (Kd.R_below (by (with_reducible repeat (first | apply Kd.R_alloc | apply Kd.R_drewN | apply Kd.R_drew)); exact HO_13.out) hb)
                                        have n1_ := Aside0.mk (Kd.R_below (by (with_reducible repeat (first | apply Kd.R_alloc | apply Kd.R_drewN | apply Kd.R_drew)); exact HO208.out) hb)
                                        have n2_ := Aside0.mk (Kd.R_below (by (with_reducible repeat (first | apply Kd.R_alloc | apply Kd.R_drewN | apply Kd.R_drew)); exact HO213.out) hb)
                                        have n3_ := Aside0.mk (blk_below (g := gb154) (o := .cells #[.int .i64 (rd y143 (ji8)), .int .i64 x155001_13] 30 (0, 0)) (by (with_reducible repeat (first | refine blk_drewN ?_ _ | refine blk_drew ?_ | refine blk_alloc ?_ _)); exact BK154.out) hb)
                                        have n4_ := Aside0.mk (below_step (by repeat (first | (with_reducible first | exact HB.out | apply below_alloc | apply pw_below_drewN | apply below_drew1 | refine below_set ?_ GE154.out) | exact HB.out)) hb)
                                        clear HO_13
                                        clear HO208
                                        clear HO213
                                        clear BK154
                                        clear HB
                                        have HO_13 := n0_
                                        have HO208 := n1_
                                        have HO213 := n2_
                                        have BK154 := n3_
                                        have HB := n4_
                                        clear n0_ n1_ n2_ n3_ n4_
                                        (try clear hb)
                                        (try clear hb2)
                                        (try clear hk)
                                        (try clear hi)
                                        refine hK.out _ _ ⟨(blk_cell BK154.out 0).trans rfl, (blk_cell BK154.out 1).trans rfl, HS2_, HS3_⟩ (fun hHeld => ?_)
                                        clear hK K
                                        refine norm_ (a' := ?_) ?_ ?_
                                        rotate_left
                                        · show Act.put _ (some 132) _ = _
                                          simp only [Act.put, List.setIfInBounds_toArray, List.set_cons_zero, List.set_cons_succ, i64_w, i32_w]
                                          rfl
                                        refine pure_ (i := 16) (N := some 133) (v := ?_) (a' := ?_) #[true, true, true, true, true, true, true, true, true, true, true, true, true, true, true, true, true, false] rfl rfl (any_of HT_.out (by kernel_rfl)) (fun _ _ _ h => h) (Or.inl ⟨by rfl, ?_⟩) ?_ ?_
                                        rotate_left
                                        · intro w'
                                          go_simp
                                          with_reducible rfl
                                        rotate_left
                                        · simp only [Act.put, List.setIfInBounds_toArray, List.set_cons_zero, List.set_cons_succ, i64_w, i32_w]
                                          rfl
                                        refine pure_ (i := 17) (N := some 8) (v := ?_) (a' := ?_) #[true, true, true, true, true, true, true, true, true, true, true, true, true, true, true, true, true, true] rfl rfl (any_of HT_.out (by kernel_rfl)) (fun _ _ _ h => h) (Or.inl ⟨by rfl, ?_⟩) ?_ ?_
                                        rotate_left
                                        · intro w'
                                          go_simp
                                          with_reducible rfl
                                        rotate_left
                                        · simp only [Act.put, List.setIfInBounds_toArray, List.set_cons_zero, List.set_cons_succ, i64_w, i32_w]
                                          rfl
                                        refine done_ (done_of HT_.out (by kernel_rfl)) ?_
                                        try go_wp2
                                        go_ret
                                        exact ⟨by first | rfl | (simp [errW_none, errW_some] <;> rfl) | (simp only [← hji8]; first | rfl | (simp [errW_none, errW_some] <;> rfl)) | (simp [*, errW_none, errW_some] <;> rfl), by repeat (first | (with_reducible first | exact HB.out | apply below_alloc | apply pw_below_drewN | apply below_drew1 | refine below_set ?_ GE154.out) | exact HB.out)⟩
                                      · rw [if_neg c96] at H
                                        have c96b0 : (((rd_T30 t209 0).f0) == (rd y143 (ji8)) && (((rd_T30 t209 0).f1) == x155001_13)) = false := by simpa using c96
                                        (try (have c96b1 : decide (((rd_T30 t209 0).f0) = (rd y143 (ji8)) && (((rd_T30 t209 0).f1) == x155001_13)) = false := by simpa using c96))
                                        (try (have c96b2 : (((rd_T30 t209 0).f0) == (rd y143 (ji8)) && (((rd_T30 t209 0).f1) == x155001_13)) = false := by simpa using c96))
                                        (try (have c96b3 : ¬ (((rd_T30 t209 0).f0) = (rd y143 (ji8)) && (((rd_T30 t209 0).f1) == x155001_13)) := by simpa using c96))
                                        clear c96
                                        exact absurd ((Option.some.inj H).trans hrt.out) (by decide)
                                    · rw [if_neg c95] at H
                                      exact absurd H (by simp)
                                  · rw [if_neg c94] at H
                                    have c94b0 : ((t209.length : Int) == 1) = false := beq_eq_false_iff_ne.mpr c94
                                    have c94b1 : ((t209.length : Int) != 1) = true := bne_iff_ne.mpr c94
                                    exact absurd ((Option.some.inj H).trans hrt.out) (by decide)
                                · rw [if_neg c93] at H
                                  have c93b0 : (t211 == 0) = false := beq_eq_false_iff_ne.mpr c93
                                  have c93b1 : (t211 != 0) = true := bne_iff_ne.mpr c93
                                  exact absurd ((Option.some.inj H).trans hrt.out) (by decide)
                              · rw [if_neg c91] at H
                                exact absurd H (by simp)
                            · rw [if_neg c90] at H
                              exact absurd H (by simp)
                          · rw [if_neg c89] at H
                            have c89b0 : ((wrap64 (Int.tmod (IntKind.u64.wrap (a1)) 4)) == 3) = false := beq_eq_false_iff_ne.mpr c89
                            have c89b1 : ((wrap64 (Int.tmod (IntKind.u64.wrap (a1)) 4)) != 3) = true := bne_iff_ne.mpr c89
                            by_cases c106 : t147.length + x13_13.length < 140737488355328
                            · rw [if_pos c106] at H
                              have LMc106 := Aside0.mk c106
                              clear c106
                              obtain ⟨y216, hy216⟩ : ∃ y_ : List Int, y_ = (t147 ++ x13_13) := ⟨_, rfl⟩
                              replace H : ((shift_Tokens.f y216).bind fun bt219 => (if bt219.2.2 = 0 then (if (bt219.1.length : Int) = 1 then (if 0 < (bt219.1.length : Int) then (if (((rd_T30 bt219.1 0).f0) == (rd y143 (ji8)) && (((rd_T30 bt219.1 0).f1) == x155001_13)) = true then ((sobriquetlaw17_wakes.f kj26).bind fun t225 => (some t225)) else (some false)) else (none)) else (some false)) else (some false))) = some r := by first | (rw [hy216]; with_reducible exact H) | (have H2_ := (Option.bind_some _ _).symm.trans H; rw [hy216]; with_reducible exact H2_) | (have H2_ := (Option.bind_some _ _).symm.trans H; with_reducible exact H2_) | with_reducible exact H | (rw [hy216]; exact H) | exact H
                              have Ny216 := Aside0.mk hy216
                              clear hy216
                              replace H := Option.bind_eq_some_iff.mp H
                              obtain ⟨⟨t219, t220, t221⟩, A1070, H⟩ := H
                              replace H : (if t221 = 0 then (if (t219.length : Int) = 1 then (if 0 < (t219.length : Int) then (if (((rd_T30 t219 0).f0) == (rd y143 (ji8)) && (((rd_T30 t219 0).f1) == x155001_13)) = true then ((sobriquetlaw17_wakes.f kj26).bind fun t225 => (some t225)) else (some false)) else (none)) else (some false)) else (some false)) = some r := H
                              have A107 := Aside0.mk A1070
                              clear A1070
                              by_cases c108 : t221 = 0
                              · rw [if_pos c108] at H
                                have c108b0 : (t221 == 0) = true := beq_iff_eq.mpr c108
                                have c108b1 : (t221 != 0) = false := bne_eq_false_iff_eq.mpr c108
                                clear c108
                                by_cases c109 : (t219.length : Int) = 1
                                · rw [if_pos c109] at H
                                  have c109b0 : ((t219.length : Int) == 1) = true := beq_iff_eq.mpr c109
                                  have c109b1 : ((t219.length : Int) != 1) = false := bne_eq_false_iff_eq.mpr c109
                                  clear c109
                                  by_cases c110 : 0 < (t219.length : Int)
                                  · rw [if_pos c110] at H
                                    have c110b0 : decide (0 < (t219.length : Int)) = true := decide_eq_true c110
                                    have c110b1 : decide (0 < t219.length) = true := decide_eq_true (by omega)
                                    clear c110
                                    by_cases c111 : (((rd_T30 t219 0).f0) == (rd y143 (ji8)) && (((rd_T30 t219 0).f1) == x155001_13)) = true
                                    · rw [if_pos c111] at H
                                      have c111b0 : (((rd_T30 t219 0).f0) == (rd y143 (ji8)) && (((rd_T30 t219 0).f1) == x155001_13)) = true := c111
                                      (try (have c111b1 : decide (((rd_T30 t219 0).f0) = (rd y143 (ji8)) && (((rd_T30 t219 0).f1) == x155001_13)) = true := by simpa using c111))
                                      (try (have c111b2 : (((rd_T30 t219 0).f0) == (rd y143 (ji8)) && (((rd_T30 t219 0).f1) == x155001_13)) = true := by simpa using c111))
                                      clear c111
                                      replace H := Option.bind_eq_some_iff.mp H
                                      obtain ⟨t225, A1120, H⟩ := H
                                      replace H : (some t225) = some r := H
                                      have A112 := Aside0.mk A1120
                                      clear A1120
                                      obtain rfl := Option.some.inj H
                                      obtain ⟨Ao114, co114, eo114⟩ := Kd.R_slice HO_13.out
                                      subst eo114
                                      try go_wp2_with (first | ((with_reducible refine gate_builtin (b := .append) (xs := #[.tmp 110, .tmp 111]) rfl ?_); (try (refine gate_guard (by rfl) ?_; dsimp only)); at_builtin; refine Kd.R_append_rows (Kd.int .u8) (w0 := w) w.heap.size rfl (.tmp 110) (.tmp 111) 25 5 (.int .u8 0) 1 rfl Try.underlying25 info5 rfl (by decide) (by omega) v149 t147 x13_13 _ _ _ (fun k_ => some k_ ≠ (.slice Ao114 x13_13.length co114 : Value).ownBlock) (fun _ => False) rfl rfl ?aO ?aR (fun _ _ h => h) (fun _ h => h.elim) ?aF ?aB ?aS ?aL ?_; (case aR => repeat (first | exact (Kd.R_reads' HO_13.out).2.2 | (with_reducible refine Kd.C_alloc ?_ _) | (with_reducible refine Kd.C_drewN ?_ _) | (with_reducible refine Kd.C_drew ?_))); (case aB => exact (by repeat (first | (with_reducible first | exact HB.out | apply below_alloc | apply pw_below_drewN | apply below_drew1 | refine below_set ?_ GE154.out) | exact HB.out))); (case aF => exact (fun k_ hk => Kd.fresh' (Kd.R_lt (by (with_reducible repeat (first | apply Kd.R_alloc | apply Kd.R_drewN | apply Kd.R_drew)); exact HO_13.out)) k_ hk)); (case aO => exact (by (with_reducible repeat (first | apply Kd.R_alloc | apply Kd.R_drewN | apply Kd.R_drew)); exact HO_11.out)); (case aS => exact (below_size (by repeat (first | (with_reducible first | exact HB.out | apply below_alloc | apply pw_below_drewN | apply below_drew1 | refine below_set ?_ GE154.out) | exact HB.out)))); (case aL => have := LMc106.out; omega); intro v217 w113 ho hb hg hat; rw [← Ny216.out] at ho; have n0_ := Aside0.mk (Kd.R_after (ok := (fun _ => True)) (by (with_reducible repeat (first | apply Kd.R_alloc | apply Kd.R_drewN | apply Kd.R_drew)); exact Kd.R_mono HO_13.out (fun _ hk => ⟨trivial, hk⟩)) hg hat); have n1_ := Aside0.mk (blk_grown (g := gb154) (o := .cells #[.int .i64 (rd y143 (ji8)), .int .i64 x155001_13] 30 (0, 0)) (by (with_reducible repeat (first | refine blk_drewN ?_ _ | refine blk_drew ?_ | refine blk_alloc ?_ _)); exact BK154.out) hg (Kd.R_ne HO_11.out BK154.out (by decide))); have n2_ := Aside0.mk (hb); have n3_ := Aside0.mk (ho); clear HO_13; clear BK154; clear HB; clear HO_11; have HO_13 := n0_; have BK154 := n1_; have HB := n2_; have HO218 := n3_; clear n0_ n1_ n2_ n3_; clear ho hb hg hat; obtain ⟨Ao115, co115, eo115⟩ := Kd.R_slice HO218.out; subst eo115) | ((with_reducible refine gate_callee (f := 9) rfl ?_); refine goesL_ (some 113) rfl rfl Try.func9 (by kernel_rfl) rfl #[.slice Ao115 y216.length co115] rfl (by (try simp only [List.map_toArray, List.map_cons, List.map_nil]); first | done | rfl | (simp only [List.length_drop, List.length_take]; rfl)) ?_; (with_reducible refine (shift_Tokens.calls _ _ y216 t219 t220 t221 _ ?side1 ?side2 A107.out).mono ?_); (case side1 => repeat (first | exact (Kd.R_reads' HO218.out).2.2 | (with_reducible refine Kd.C_alloc ?_ _) | (with_reducible refine Kd.C_drewN ?_ _) | (with_reducible refine Kd.C_drew ?_))); (case side2 => exact (Kd.R_reads' HO218.out).2.1); rintro e w116 ⟨v222, rfl, ho0, hb⟩; refine ⟨_, rfl, ?_⟩; have n0_ := Aside0.mk (Kd.R_below (by (with_reducible repeat (first | apply Kd.R_alloc | apply Kd.R_drewN | apply Kd.R_drew)); exact HO_13.out) hb); have n1_ := Aside0.mk (Kd.R_below (by (with_reducible repeat (first | apply Kd.R_alloc | apply Kd.R_drewN | apply Kd.R_drew)); exact HO218.out) hb); have n2_ := Aside0.mk (Kd.R_lower (Kd.R_newB ho0 (g := gb154) (o := .cells #[.int .i64 (rd y143 (ji8)), .int .i64 x155001_13] 30 (0, 0)) (by (with_reducible repeat (first | refine blk_drewN ?_ _ | refine blk_drew ?_ | refine blk_alloc ?_ _)); exact BK154.out)) (below_size (by repeat (first | (with_reducible first | exact HB.out | apply below_alloc | apply pw_below_drewN | apply below_drew1 | refine below_set ?_ GE154.out) | exact HB.out)))); have n3_ := Aside0.mk (blk_below (g := gb154) (o := .cells #[.int .i64 (rd y143 (ji8)), .int .i64 x155001_13] 30 (0, 0)) (by (with_reducible repeat (first | refine blk_drewN ?_ _ | refine blk_drew ?_ | refine blk_alloc ?_ _)); exact BK154.out) hb); have n4_ := Aside0.mk (below_step (by repeat (first | (with_reducible first | exact HB.out | apply below_alloc | apply pw_below_drewN | apply below_drew1 | refine below_set ?_ GE154.out) | exact HB.out)) hb); clear HO_13; clear HO218; clear BK154; clear HB; have HO_13 := n0_; have HO218 := n1_; have HO223 := n2_; have BK154 := n3_; have HB := n4_; clear n0_ n1_ n2_ n3_ n4_; (try clear hb); (try clear hb2); (try clear hk); (try clear hi); (try clear ho0)))
                                      have n0_ := Aside0.mk (Kd.R_drew HO_13.out)
                                      have n1_ := Aside0.mk (Kd.R_drew HO218.out)
                                      have n2_ := Aside0.mk (Kd.R_drew HO223.out)
                                      have n3_ := Aside0.mk (blk_drew BK154.out)
                                      have n4_ := Aside0.mk (below_drew1 HB.out)
                                      clear HO_13
                                      clear HO218
                                      clear HO223
                                      clear BK154
                                      clear HB
                                      have HO_13 := n0_
                                      have HO218 := n1_
                                      have HO223 := n2_
                                      have BK154 := n3_
                                      have HB := n4_
                                      clear n0_ n1_ n2_ n3_ n4_
                                      obtain ⟨Ao118, co118, eo118⟩ := Kd.R_slice HO223.out
                                      (first | subst eo118 | (injection eo118 with f1_ f2_ f3_; have f4_ := f1_.symm; have f5_ := f3_.symm; clear f1_ f2_ f3_; subst f4_; subst f5_))
                                      have p224 : 0 ≤ (0 : Int) := (by omega)
                                      have q224 : 0 < (t219.length : Int) := of_decide_eq_true (by first | (with_reducible assumption) | assumption)
                                      obtain ⟨ad224, e224, hx224_0, hx224_1⟩ := at_T30 (Kd.R_reads' HO223.out).2.2 0 p224 q224
                                      cases e224
                                      have qi224 : (0 < t219.length) = True := eq_true (by omega)
                                      (try rw [show ((0 : Int)).toNat = 0 from rfl] at hx224_0)
                                      (try rw [show 0 * 2 = 0 from rfl] at hx224_0)
                                      (try rw [Addr.add_zero'] at hx224_0)
                                      (try rw [show ((0 : Int)).toNat = 0 from rfl] at hx224_1)
                                      (try rw [show 0 * 2 = 0 from rfl] at hx224_1)
                                      (try rw [Addr.add_zero'] at hx224_1)
                                      replace p224 := eq_true p224
                                      replace q224 := eq_true q224
                                      refine start_ (n := 18) (S := fun w' => w'.cell? ⟨gb154, 0, none⟩ = some (.int .i64 (rd y143 (ji8))) ∧ w'.cell? ⟨gb154, 1, none⟩ = some (.int .i64 x155001_13) ∧ w'.cell? ad224 = some (.int .i64 ((rd_T30 t219 0).f0)) ∧ w'.cell? ⟨ad224.block, ad224.off + 1, none⟩ = some (.int .i64 ((rd_T30 t219 0).f1))) (ds := []) #[false, false, false, false, false, false, false, false, false, false, false, false, false, false, false, false, false, false] (by kernel_rfl) rfl rfl ⟨(blk_cell BK154.out 0).trans rfl, (blk_cell BK154.out 1).trans rfl, hx224_0, hx224_1⟩ (fun hHeld => ?_); refine with_tabW sobriquetlaw17_ShiftSets.tab25 sobriquetlaw17_ShiftSets.bits25 (fun HT_ HW_ => ?_)
                                      generalize w116.drew = w117 at HO_13 HO218 HO223 BK154 HB hx224_0 hx224_1 hHeld ⊢
                                      refine pure_ (i := 0) (N := some 117) (v := ?_) (a' := ?_) #[true, false, false, false, false, false, false, false, false, false, false, false, false, false, false, false, false, false] rfl rfl (any_of HT_.out (by kernel_rfl)) (fun _ _ _ h => h) (Or.inl ⟨by rfl, ?_⟩) ?_ ?_
                                      rotate_left
                                      · intro w'
                                        go_simp
                                        with_reducible rfl
                                      rotate_left
                                      · simp only [Act.put, List.setIfInBounds_toArray, List.set_cons_zero, List.set_cons_succ, i64_w, i32_w]
                                        rfl
                                      refine pure_ (i := 1) (N := some 118) (v := ?_) (a' := ?_) #[true, true, false, false, false, false, false, false, false, false, false, false, false, false, false, false, false, false] rfl rfl (any_of HT_.out (by kernel_rfl)) (fun _ _ _ h => h) (Or.inl ⟨by rfl, ?_⟩) ?_ ?_
                                      rotate_left
                                      · intro w'
                                        go_simp
                                        with_reducible rfl
                                      rotate_left
                                      · simp only [Act.put, List.setIfInBounds_toArray, List.set_cons_zero, List.set_cons_succ, i64_w, i32_w]
                                        rfl
                                      refine pure_ (i := 2) (N := some 119) (v := ?_) (a' := ?_) #[true, true, true, false, false, false, false, false, false, false, false, false, false, false, false, false, false, false] rfl rfl (any_of HT_.out (by kernel_rfl)) (fun _ _ _ h => h) (Or.inl ⟨by rfl, ?_⟩) ?_ ?_
                                      rotate_left
                                      · intro w'
                                        go_simp
                                        with_reducible rfl
                                      rotate_left
                                      · simp only [Act.put, List.setIfInBounds_toArray, List.set_cons_zero, List.set_cons_succ, i64_w, i32_w]
                                        rfl
                                      refine pure_ (i := 3) (N := some 120) (v := ?_) (a' := ?_) #[true, true, true, true, false, false, false, false, false, false, false, false, false, false, false, false, false, false] rfl rfl (any_of HT_.out (by kernel_rfl)) (fun _ _ _ h => h) (Or.inl ⟨by rfl, ?_⟩) ?_ ?_
                                      rotate_left
                                      · intro w'
                                        go_simp
                                        with_reducible rfl
                                      rotate_left
                                      · simp only [Act.put, List.setIfInBounds_toArray, List.set_cons_zero, List.set_cons_succ, i64_w, i32_w]
                                        rfl
                                      refine pure_ (i := 4) (N := some 121) (v := ?_) (a' := ?_) #[true, true, true, true, true, false, false, false, false, false, false, false, false, false, false, false, false, false] rfl rfl (any_of HT_.out (by kernel_rfl)) (fun _ _ _ h => h) (Or.inl ⟨by rfl, ?_⟩) ?_ ?_
                                      rotate_left
                                      · intro w'
                                        go_simp
                                        with_reducible rfl
                                      rotate_left
                                      · simp only [Act.put, List.setIfInBounds_toArray, List.set_cons_zero, List.set_cons_succ, i64_w, i32_w]
                                        rfl
                                      refine pure_ (i := 5) (N := some 122) (v := ?_) (a' := ?_) #[true, true, true, true, true, true, false, false, false, false, false, false, false, false, false, false, false, false] rfl rfl (any_of HT_.out (by kernel_rfl)) (fun _ _ _ h => h) (Or.inl ⟨by rfl, ?_⟩) ?_ ?_
                                      rotate_left
                                      · intro w'
                                        go_simp
                                        with_reducible rfl
                                      rotate_left
                                      · simp only [Act.put, List.setIfInBounds_toArray, List.set_cons_zero, List.set_cons_succ, i64_w, i32_w]
                                        rfl
                                      refine pure_ (i := 6) (N := some 123) (v := ?_) (a' := ?_) #[true, true, true, true, true, true, true, false, false, false, false, false, false, false, false, false, false, false] rfl rfl (any_of HT_.out (by kernel_rfl)) (fun _ _ _ h => h) (Or.inl ⟨by rfl, ?_⟩) ?_ ?_
                                      rotate_left
                                      · intro w'
                                        go_simp
                                        with_reducible rfl
                                      rotate_left
                                      · simp only [Act.put, List.setIfInBounds_toArray, List.set_cons_zero, List.set_cons_succ, i64_w, i32_w]
                                        rfl
                                      refine pure_ (i := 7) (N := some 124) (v := ?_) (a' := ?_) #[true, true, true, true, true, true, true, true, false, false, false, false, false, false, false, false, false, false] rfl rfl (any_of HT_.out (by kernel_rfl)) (fun _ _ _ h => h) (Or.inl ⟨by rfl, ?_⟩) ?_ ?_
                                      rotate_left
                                      · intro w'
                                        go_simp
                                        with_reducible rfl
                                      rotate_left
                                      · simp only [Act.put, List.setIfInBounds_toArray, List.set_cons_zero, List.set_cons_succ, i64_w, i32_w]
                                        rfl
                                      refine pure_ (i := 8) (N := some 125) (v := ?_) (a' := ?_) #[true, true, true, true, true, true, true, true, true, false, false, false, false, false, false, false, false, false] rfl rfl (any_of HT_.out (by kernel_rfl)) (fun _ _ _ h => h) (Or.inl ⟨by rfl, ?_⟩) ?_ ?_
                                      rotate_left
                                      · intro w'
                                        go_simp
                                        with_reducible rfl
                                      rotate_left
                                      · simp only [Act.put, List.setIfInBounds_toArray, List.set_cons_zero, List.set_cons_succ, i64_w, i32_w]
                                        rfl
                                      refine pure_ (i := 9) (N := some 126) (v := ?_) (a' := ?_) #[true, true, true, true, true, true, true, true, true, true, false, false, false, false, false, false, false, false] rfl rfl (any_of HT_.out (by kernel_rfl)) (fun _ _ _ h => h) (Or.inl ⟨by rfl, ?_⟩) ?_ ?_
                                      rotate_left
                                      · intro w'
                                        go_simp
                                        with_reducible rfl
                                      rotate_left
                                      · simp only [Act.put, List.setIfInBounds_toArray, List.set_cons_zero, List.set_cons_succ, i64_w, i32_w]
                                        rfl
                                      refine take_ (i := 10) (N := some 127) (v := ?_) (a' := ?_) #[true, true, true, true, true, true, true, true, true, true, true, false, false, false, false, false, false, false] rfl rfl (take_ofW HT_.out HW_.out (by kernel_rfl)) (fun _ _ _ h => h) (Or.inl ⟨by rfl, ?_⟩) hHeld ?_ ?_
                                      rotate_left
                                      · rintro w' ⟨s0, s1, s2, s3⟩
                                        go_simp
                                        with_reducible rfl
                                      rotate_left
                                      · simp only [Act.put, List.setIfInBounds_toArray, List.set_cons_zero, List.set_cons_succ, i64_w, i32_w]
                                        rfl
                                      refine take_ (i := 11) (N := some 128) (v := ?_) (a' := ?_) #[true, true, true, true, true, true, true, true, true, true, true, true, false, false, false, false, false, false] rfl rfl (take_ofW HT_.out HW_.out (by kernel_rfl)) (fun _ _ _ h => h) (Or.inl ⟨by rfl, ?_⟩) hHeld ?_ ?_
                                      rotate_left
                                      · rintro w' ⟨s0, s1, s2, s3⟩
                                        go_simp
                                        with_reducible rfl
                                      rotate_left
                                      · simp only [Act.put, List.setIfInBounds_toArray, List.set_cons_zero, List.set_cons_succ, i64_w, i32_w]
                                        rfl
                                      refine pure_ (i := 12) (N := some 129) (v := ?_) (a' := ?_) #[true, true, true, true, true, true, true, true, true, true, true, true, true, false, false, false, false, false] rfl rfl (any_of HT_.out (by kernel_rfl)) (fun _ _ _ h => h) (Or.inl ⟨by rfl, ?_⟩) ?_ ?_
                                      rotate_left
                                      · intro w'
                                        go_simp
                                        with_reducible rfl
                                      rotate_left
                                      · simp only [Act.put, List.setIfInBounds_toArray, List.set_cons_zero, List.set_cons_succ, i64_w, i32_w]
                                        rfl
                                      refine pure_ (i := 13) (N := some 130) (v := ?_) (a' := ?_) #[true, true, true, true, true, true, true, true, true, true, true, true, true, true, false, false, false, false] rfl rfl (any_of HT_.out (by kernel_rfl)) (fun _ _ _ h => h) (Or.inl ⟨by rfl, ?_⟩) ?_ ?_
                                      rotate_left
                                      · intro w'
                                        go_simp
                                        with_reducible rfl
                                      rotate_left
                                      · simp only [Act.put, List.setIfInBounds_toArray, List.set_cons_zero, List.set_cons_succ, i64_w, i32_w]
                                        rfl
                                      refine pure_ (i := 14) (N := some 131) (v := ?_) (a' := ?_) #[true, true, true, true, true, true, true, true, true, true, true, true, true, true, true, false, false, false] rfl rfl (any_of HT_.out (by kernel_rfl)) (fun _ _ _ h => h) (Or.inl ⟨by rfl, ?_⟩) ?_ ?_
                                      rotate_left
                                      · intro w'
                                        go_simp
                                        with_reducible rfl
                                      rotate_left
                                      · simp only [Act.put, List.setIfInBounds_toArray, List.set_cons_zero, List.set_cons_succ, i64_w, i32_w]
                                        rfl
                                      refine one_ (i := 15) (N := some 132) #[true, true, true, true, true, true, true, true, true, true, true, true, true, true, true, true, false, false] rfl rfl (one_of HT_.out (by kernel_rfl)) (by decide) (fun K hK => ?_)
                                      refine goes_ Try.func10 (by kernel_rfl) rfl #[] (by rfl) rfl rfl (by (try simp only [List.map_toArray, List.map_cons, List.map_nil]); first | done | rfl | (simp only [List.length_drop, List.length_take]; rfl)) ?_
                                      with_reducible refine (sobriquetlaw17_wakes.calls kj26  t225 _ A112.out (by first | exact hrt.out | rfl)).mono ?_
                                      rintro e w119 ⟨rfl, hb⟩
                                      have HS2_ := (hb.cell (World.block_lt_of_cell? _ _ (hHeld.2.2.1))).trans (hHeld.2.2.1)
                                      have HS3_ := (hb.cell (World.block_lt_of_cell? _ _ (hHeld.2.2.2))).trans (hHeld.2.2.2)
                                      refine ⟨_, rfl, ?_⟩
                                      have n0_ := Aside0.mk (Kd.R_below (by (with_reducible repeat (first | apply Kd.R_alloc | apply Kd.R_drewN | apply Kd.R_drew)); exact HO_13.out) hb)
                                      have n1_ := Aside0.mk (Kd.R_below (by (with_reducible repeat (first | apply Kd.R_alloc | apply Kd.R_drewN | apply Kd.R_drew)); exact HO218.out) hb)
                                      have n2_ := Aside0.mk (Kd.R_below (by (with_reducible repeat (first | apply Kd.R_alloc | apply Kd.R_drewN | apply Kd.R_drew)); exact HO223.out) hb)
                                      have n3_ := Aside0.mk (blk_below (g := gb154) (o := .cells #[.int .i64 (rd y143 (ji8)), .int .i64 x155001_13] 30 (0, 0)) (by (with_reducible repeat (first | refine blk_drewN ?_ _ | refine blk_drew ?_ | refine blk_alloc ?_ _)); exact BK154.out) hb)
                                      have n4_ := Aside0.mk (below_step (by repeat (first | (with_reducible first | exact HB.out | apply below_alloc | apply pw_below_drewN | apply below_drew1 | refine below_set ?_ GE154.out) | exact HB.out)) hb)
                                      clear HO_13
                                      clear HO218
                                      clear HO223
                                      clear BK154
                                      clear HB
                                      have HO_13 := n0_
                                      have HO218 := n1_
                                      have HO223 := n2_
                                      have BK154 := n3_
                                      have HB := n4_
                                      clear n0_ n1_ n2_ n3_ n4_
                                      (try clear hb)
                                      (try clear hb2)
                                      (try clear hk)
                                      (try clear hi)
                                      refine hK.out _ _ ⟨(blk_cell BK154.out 0).trans rfl, (blk_cell BK154.out 1).trans rfl, HS2_, HS3_⟩ (fun hHeld => ?_)
                                      clear hK K
                                      refine norm_ (a' := ?_) ?_ ?_
                                      rotate_left
                                      · show Act.put _ (some 132) _ = _
                                        simp only [Act.put, List.setIfInBounds_toArray, List.set_cons_zero, List.set_cons_succ, i64_w, i32_w]
                                        rfl
                                      refine pure_ (i := 16) (N := some 133) (v := ?_) (a' := ?_) #[true, true, true, true, true, true, true, true, true, true, true, true, true, true, true, true, true, false] rfl rfl (any_of HT_.out (by kernel_rfl)) (fun _ _ _ h => h) (Or.inl ⟨by rfl, ?_⟩) ?_ ?_
                                      rotate_left
                                      · intro w'
                                        go_simp
                                        with_reducible rfl
                                      rotate_left
                                      · simp only [Act.put, List.setIfInBounds_toArray, List.set_cons_zero, List.set_cons_succ, i64_w, i32_w]
                                        rfl
                                      refine pure_ (i := 17) (N := some 8) (v := ?_) (a' := ?_) #[true, true, true, true, true, true, true, true, true, true, true, true, true, true, true, true, true, true] rfl rfl (any_of HT_.out (by kernel_rfl)) (fun _ _ _ h => h) (Or.inl ⟨by rfl, ?_⟩) ?_ ?_
                                      rotate_left
                                      · intro w'
                                        go_simp
                                        with_reducible rfl
                                      rotate_left
                                      · simp only [Act.put, List.setIfInBounds_toArray, List.set_cons_zero, List.set_cons_succ, i64_w, i32_w]
                                        rfl
                                      refine done_ (done_of HT_.out (by kernel_rfl)) ?_
                                      try go_wp2
                                      go_ret
                                      exact ⟨by first | rfl | (simp [errW_none, errW_some] <;> rfl) | (simp only [← hji8]; first | rfl | (simp [errW_none, errW_some] <;> rfl)) | (simp [*, errW_none, errW_some] <;> rfl), by repeat (first | (with_reducible first | exact HB.out | apply below_alloc | apply pw_below_drewN | apply below_drew1 | refine below_set ?_ GE154.out) | exact HB.out)⟩
                                    · rw [if_neg c111] at H
                                      have c111b0 : (((rd_T30 t219 0).f0) == (rd y143 (ji8)) && (((rd_T30 t219 0).f1) == x155001_13)) = false := by simpa using c111
                                      (try (have c111b1 : decide (((rd_T30 t219 0).f0) = (rd y143 (ji8)) && (((rd_T30 t219 0).f1) == x155001_13)) = false := by simpa using c111))
                                      (try (have c111b2 : (((rd_T30 t219 0).f0) == (rd y143 (ji8)) && (((rd_T30 t219 0).f1) == x155001_13)) = false := by simpa using c111))
                                      (try (have c111b3 : ¬ (((rd_T30 t219 0).f0) = (rd y143 (ji8)) && (((rd_T30 t219 0).f1) == x155001_13)) := by simpa using c111))
                                      clear c111
                                      exact absurd ((Option.some.inj H).trans hrt.out) (by decide)
                                  · rw [if_neg c110] at H
                                    exact absurd H (by simp)
                                · rw [if_neg c109] at H
                                  have c109b0 : ((t219.length : Int) == 1) = false := beq_eq_false_iff_ne.mpr c109
                                  have c109b1 : ((t219.length : Int) != 1) = true := bne_iff_ne.mpr c109
                                  exact absurd ((Option.some.inj H).trans hrt.out) (by decide)
                              · rw [if_neg c108] at H
                                have c108b0 : (t221 == 0) = false := beq_eq_false_iff_ne.mpr c108
                                have c108b1 : (t221 != 0) = true := bne_iff_ne.mpr c108
                                exact absurd ((Option.some.inj H).trans hrt.out) (by decide)
                            · rw [if_neg c106] at H
                              exact absurd H (by simp)
          · rw [if_neg c12] at H
            have c12b0 : (t148 == 0) = false := beq_eq_false_iff_ne.mpr c12
            have c12b1 : (t148 != 0) = true := bne_iff_ne.mpr c12
            exact absurd ((Option.some.inj H).trans hrt.out) (by decide)
        · rw [if_neg c10] at H
          exact absurd H (by simp)
      · rw [if_neg c9] at H
        exact absurd H (by simp)
  · rw [if_neg c6] at H
    exact absurd H (by simp)

/-- THE ONE PURE STATEMENT of sobriquetlaw17_ShiftSets: yours. -/
def sobriquetlaw17_ShiftSets.Pure : Prop := ∀ (a0 : Int) (a1 : Int) (a2 : Int) (a3 : Bool), (Lit.int .i64 a0).wf = true → (Lit.int .i64 a1).wf = true → (Lit.int .i64 a2).wf = true → ∃ k, sobriquetlaw17_ShiftSets.f k a0 a1 a2 a3 = some true
theorem sobriquetlaw17_ShiftSets.walk (P : sobriquetlaw17_ShiftSets.Pure) (a0 : Int) (a1 : Int) (a2 : Int) (a3 : Bool) (w : World) (w0 : (Lit.int .i64 a0).wf = true) (w1 : (Lit.int .i64 a1).wf = true) (w2 : (Lit.int .i64 a2).wf = true) :
    Calls Try.prog 3 #[.int .i64 a0, .int .i64 a1, .int .i64 a2, .bool a3] w fun e w' => e = .returned (.bool true) ∧ Below w.heap.size w w' := by
  obtain ⟨k, h⟩ := P a0 a1 a2 a3 w0 w1 w2
  refine (sobriquetlaw17_ShiftSets.calls k a0 a1 a2 a3 true w h rfl).mono ?_
  rintro e w' ⟨rfl, hd⟩
  exact ⟨rfl, hd⟩

end Go.Proofs.Ytbgmblpgdaociaa.MShiftSets
