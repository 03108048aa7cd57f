-- Written by a program of this session over the translation; checked by Lean alone.
import Derived.Test.YteclbjjdhckgoaaMAttrKindsx0
import Derived.Test.YteclbjjdhckgoaaMAttrKindsx1
import Derived.Test.YteclbjjdhckgoaaMAttrKindsx2
namespace Go.Proofs.Yteclbjjdhckgoaa.MAttrKinds
open Go.RowKit Go.Proofs.YteclbjjdhckgoaaW.PrintWords Go.Proofs.YteclbjjdhckgoaaW.PrintLast Go.Proofs.YteclbjjdhckgoaaW.PrintMore
attribute [local go_sem] max2_int min2_int max_two min_two max_three min_three max_four min_four   -- for this text's walks alone
set_option linter.unusedVariables false
set_option linter.unusedSimpArgs false
set_option linter.unnecessarySimpa false

/-! ### sobriquetlaw22_AttrKinds: function 5 -/
mutual
def sobriquetlaw22_AttrKinds.l0 : Nat → List Int → Int → List Int → ByteArray → Int → List Int → Option (Bool)
  | 0, _, _, _, _, _, _ => none
  | k + 1, x5, x6, x268000, x268001, x268002, x268003 => if x6 < (x5.length : Int) then (if 0 ≤ x6 then ((str_Is.f k (rd x5 x6)).bind fun t274 => (if t274 = true then (sobriquetlaw22_AttrKinds.l1 k x5 x6 0 x268000 x268001 x268002 x268003) else (some false))) else (none)) else (sobriquetlaw22_AttrKinds.l2 k 0 x268000 x268001 x268002 x268003)
def sobriquetlaw22_AttrKinds.l1 : Nat → List Int → Int → Int → List Int → ByteArray → Int → List Int → Option (Bool)
  | 0, _, _, _, _, _, _, _ => none
  | k + 1, x5, x6, x7, x268000, x268001, x268002, x268003 => if x7 < x6 then (if 0 ≤ x7 then (if x7 < (x5.length : Int) then (if 0 ≤ x6 then (if x6 < (x5.length : Int) then (if (rd x5 x7) = (rd x5 x6) then (some false) else (sobriquetlaw22_AttrKinds.l1 k x5 x6 (wrap64 (x7 + 1)) x268000 x268001 x268002 x268003)) else (none)) else (none)) else (none)) else (none)) else (sobriquetlaw22_AttrKinds.l0 k x5 (wrap64 (x6 + 1)) x268000 x268001 x268002 x268003)
def sobriquetlaw22_AttrKinds.l2 : Nat → Int → List Int → ByteArray → Int → List Int → Option (Bool)
  | 0, _, _, _, _, _ => none
  | k + 1, x8, x268000, x268001, x268002, x268003 => if x8 < (x268001.size : Int) then (if 0 ≤ x8 then (if (bt x268001 x8) < 65 then (if x8 = 0 then (some false) else (if (bt x268001 x8) < 48 then (some false) else (if (bt x268001 x8) > 57 then (some false) else (sobriquetlaw22_AttrKinds.l2 k (wrap64 (x8 + 1)) x268000 x268001 x268002 x268003)))) else (if (bt x268001 x8) > 90 then (if x8 = 0 then (some false) else (if (bt x268001 x8) < 48 then (some false) else (if (bt x268001 x8) > 57 then (some false) else (sobriquetlaw22_AttrKinds.l2 k (wrap64 (x8 + 1)) x268000 x268001 x268002 x268003)))) else (sobriquetlaw22_AttrKinds.l2 k (wrap64 (x8 + 1)) x268000 x268001 x268002 x268003))) else (none)) else ((sobriquetlaw22_wakes.f k).bind fun t277 => (some t277))
end
def sobriquetlaw22_AttrKinds.f (k : Nat) (a0 : Int) : Option (Bool) := (api_Attrs.f).bind fun t263 => (if (t263.length : Int) = 0 then (some false) else (if (IntKind.u64.wrap ((t263.length : Int))) = 0 then (none) else (if 0 ≤ (wrap64 (Int.tmod (IntKind.u64.wrap (a0)) (IntKind.u64.wrap ((t263.length : Int))))) then (if (wrap64 (Int.tmod (IntKind.u64.wrap (a0)) (IntKind.u64.wrap ((t263.length : Int))))) < (t263.length : Int) then ((attr_Kinds.f k ((rd_T27 t263 (wrap64 (Int.tmod (IntKind.u64.wrap (a0)) (IntKind.u64.wrap ((t263.length : Int)))))).f0)).bind fun t268 => (if (t268.length : Int) = 0 then (some false) else ((attr_Rule.f k ((rd_T27 t263 (wrap64 (Int.tmod (IntKind.u64.wrap (a0)) (IntKind.u64.wrap ((t263.length : Int)))))).f0)).bind fun t271 => (if t271 < 1 then (some false) else ((attr_Rule.f k ((rd_T27 t263 (wrap64 (Int.tmod (IntKind.u64.wrap (a0)) (IntKind.u64.wrap ((t263.length : Int)))))).f0)).bind fun t272 => (if t272 > 3 then (some false) else (sobriquetlaw22_AttrKinds.l0 k t268 0 ((rd_T27 t263 (wrap64 (Int.tmod (IntKind.u64.wrap (a0)) (IntKind.u64.wrap ((t263.length : Int)))))).f0) ((rd_T27 t263 (wrap64 (Int.tmod (IntKind.u64.wrap (a0)) (IntKind.u64.wrap ((t263.length : Int)))))).f1) ((rd_T27 t263 (wrap64 (Int.tmod (IntKind.u64.wrap (a0)) (IntKind.u64.wrap ((t263.length : Int)))))).f2) ((rd_T27 t263 (wrap64 (Int.tmod (IntKind.u64.wrap (a0)) (IntKind.u64.wrap ((t263.length : Int)))))).f3)))))))) else (none)) else (none))))
theorem sobriquetlaw22_AttrKinds.mono_l : ∀ k, (∀ y0 y1 y2 y3 y4 y5, LeO (sobriquetlaw22_AttrKinds.l0 k y0 y1 y2 y3 y4 y5) (sobriquetlaw22_AttrKinds.l0 (k + 1) y0 y1 y2 y3 y4 y5)) ∧ (∀ y0 y1 y2 y3 y4 y5 y6, LeO (sobriquetlaw22_AttrKinds.l1 k y0 y1 y2 y3 y4 y5 y6) (sobriquetlaw22_AttrKinds.l1 (k + 1) y0 y1 y2 y3 y4 y5 y6)) ∧ (∀ y0 y1 y2 y3 y4, LeO (sobriquetlaw22_AttrKinds.l2 k y0 y1 y2 y3 y4) (sobriquetlaw22_AttrKinds.l2 (k + 1) y0 y1 y2 y3 y4))
  | 0 => ⟨fun _ _ _ _ _ _ r h => by simp [sobriquetlaw22_AttrKinds.l0] at h, fun _ _ _ _ _ _ _ r h => by simp [sobriquetlaw22_AttrKinds.l1] at h, fun _ _ _ _ _ r h => by simp [sobriquetlaw22_AttrKinds.l2] at h⟩
  | k + 1 => by
    obtain ⟨ih0, ih1, ih2⟩ := sobriquetlaw22_AttrKinds.mono_l k
    refine ⟨?_, ?_, ?_⟩
    · intro y0 y1 y2 y3 y4 y5
      unfold sobriquetlaw22_AttrKinds.l0
      repeat' first
      | (with_reducible exact ih0 _ _ _ _ _ _)
      | (with_reducible exact ih1 _ _ _ _ _ _ _)
      | (with_reducible exact ih2 _ _ _ _ _)
      | (with_reducible exact attr_Kinds.mono _ _)
      | (with_reducible exact attr_Rule.mono _ _)
      | (with_reducible exact sobriquetlaw22_wakes.mono _)
      | (with_reducible exact str_Is.mono _ _)
      | (with_reducible exact LeO.refl _)
      | (with_reducible exact LeO.none _)
      | (with_reducible refine LeO.ite ?_ ?_)
      | (with_reducible refine LeO.bind ?_ (fun _ => ?_))
      | exact ih0 _ _ _ _ _ _
      | exact ih1 _ _ _ _ _ _ _
      | exact ih2 _ _ _ _ _
      | exact attr_Kinds.mono _ _
      | exact attr_Rule.mono _ _
      | exact sobriquetlaw22_wakes.mono _
      | exact str_Is.mono _ _
      | exact LeO.none _
      | refine LeO.ite ?_ ?_
      | refine LeO.bind ?_ (fun _ => ?_)
    · intro y0 y1 y2 y3 y4 y5 y6
      unfold sobriquetlaw22_AttrKinds.l1
      repeat' first
      | (with_reducible exact ih0 _ _ _ _ _ _)
      | (with_reducible exact ih1 _ _ _ _ _ _ _)
      | (with_reducible exact ih2 _ _ _ _ _)
      | (with_reducible exact attr_Kinds.mono _ _)
      | (with_reducible exact attr_Rule.mono _ _)
      | (with_reducible exact sobriquetlaw22_wakes.mono _)
      | (with_reducible exact str_Is.mono _ _)
      | (with_reducible exact LeO.refl _)
      | (with_reducible exact LeO.none _)
      | (with_reducible refine LeO.ite ?_ ?_)
      | (with_reducible refine LeO.bind ?_ (fun _ => ?_))
      | exact ih0 _ _ _ _ _ _
      | exact ih1 _ _ _ _ _ _ _
      | exact ih2 _ _ _ _ _
      | exact attr_Kinds.mono _ _
      | exact attr_Rule.mono _ _
      | exact sobriquetlaw22_wakes.mono _
      | exact str_Is.mono _ _
      | exact LeO.none _
      | refine LeO.ite ?_ ?_
      | refine LeO.bind ?_ (fun _ => ?_)
    · intro y0 y1 y2 y3 y4
      unfold sobriquetlaw22_AttrKinds.l2
      repeat' first
      | (with_reducible exact ih0 _ _ _ _ _ _)
      | (with_reducible exact ih1 _ _ _ _ _ _ _)
      | (with_reducible exact ih2 _ _ _ _ _)
      | (with_reducible exact attr_Kinds.mono _ _)
      | (with_reducible exact attr_Rule.mono _ _)
      | (with_reducible exact sobriquetlaw22_wakes.mono _)
      | (with_reducible exact str_Is.mono _ _)
      | (with_reducible exact LeO.refl _)
      | (with_reducible exact LeO.none _)
      | (with_reducible refine LeO.ite ?_ ?_)
      | (with_reducible refine LeO.bind ?_ (fun _ => ?_))
      | exact ih0 _ _ _ _ _ _
      | exact ih1 _ _ _ _ _ _ _
      | exact ih2 _ _ _ _ _
      | exact attr_Kinds.mono _ _
      | exact attr_Rule.mono _ _
      | exact sobriquetlaw22_wakes.mono _
      | exact str_Is.mono _ _
      | exact LeO.none _
      | refine LeO.ite ?_ ?_
      | refine LeO.bind ?_ (fun _ => ?_)
theorem sobriquetlaw22_AttrKinds.mono : ∀ a0 k, LeO (sobriquetlaw22_AttrKinds.f k a0) (sobriquetlaw22_AttrKinds.f (k + 1) a0) := by
  intro a0 k
  obtain ⟨ih0, ih1, ih2⟩ := sobriquetlaw22_AttrKinds.mono_l k
  unfold sobriquetlaw22_AttrKinds.f
  repeat' first
      | (with_reducible exact ih0 _ _ _ _ _ _)
      | (with_reducible exact ih1 _ _ _ _ _ _ _)
      | (with_reducible exact ih2 _ _ _ _ _)
      | (with_reducible exact attr_Kinds.mono _ _)
      | (with_reducible exact attr_Rule.mono _ _)
      | (with_reducible exact sobriquetlaw22_wakes.mono _)
      | (with_reducible exact str_Is.mono _ _)
      | (with_reducible exact LeO.refl _)
      | (with_reducible exact LeO.none _)
      | (with_reducible refine LeO.ite ?_ ?_)
      | (with_reducible refine LeO.bind ?_ (fun _ => ?_))
      | exact ih0 _ _ _ _ _ _
      | exact ih1 _ _ _ _ _ _ _
      | exact ih2 _ _ _ _ _
      | exact attr_Kinds.mono _ _
      | exact attr_Rule.mono _ _
      | exact sobriquetlaw22_wakes.mono _
      | exact str_Is.mono _ _
      | exact LeO.none _
      | refine LeO.ite ?_ ?_
      | refine LeO.bind ?_ (fun _ => ?_)
set_option maxHeartbeats 8000000 in
set_option maxRecDepth 100000 in
theorem sobriquetlaw22_AttrKinds.calls (k : Nat) (a0 : Int) (r : Bool) (w : World) (h : sobriquetlaw22_AttrKinds.f k a0 = some r) (hrt0 : r = true) :
    Calls Try.prog 5 #[.int .i64 a0] w fun e w' => e = .returned (.bool r) ∧ Below w.heap.size w w' := by
  have hu27 := Try.underlying27
  have HB := Aside0.mk (Below.refl w.heap.size w)
  have hrt := Aside0.mk hrt0
  clear hrt0
  have H : ((api_Attrs.f).bind fun t263 => (if (t263.length : Int) = 0 then (some false) else (if (IntKind.u64.wrap ((t263.length : Int))) = 0 then (none) else (if 0 ≤ (wrap64 (Int.tmod (IntKind.u64.wrap (a0)) (IntKind.u64.wrap ((t263.length : Int))))) then (if (wrap64 (Int.tmod (IntKind.u64.wrap (a0)) (IntKind.u64.wrap ((t263.length : Int))))) < (t263.length : Int) then ((attr_Kinds.f k ((rd_T27 t263 (wrap64 (Int.tmod (IntKind.u64.wrap (a0)) (IntKind.u64.wrap ((t263.length : Int)))))).f0)).bind fun t268 => (if (t268.length : Int) = 0 then (some false) else ((attr_Rule.f k ((rd_T27 t263 (wrap64 (Int.tmod (IntKind.u64.wrap (a0)) (IntKind.u64.wrap ((t263.length : Int)))))).f0)).bind fun t271 => (if t271 < 1 then (some false) else ((attr_Rule.f k ((rd_T27 t263 (wrap64 (Int.tmod (IntKind.u64.wrap (a0)) (IntKind.u64.wrap ((t263.length : Int)))))).f0)).bind fun t272 => (if t272 > 3 then (some false) else (sobriquetlaw22_AttrKinds.l0 k t268 0 ((rd_T27 t263 (wrap64 (Int.tmod (IntKind.u64.wrap (a0)) (IntKind.u64.wrap ((t263.length : Int)))))).f0) ((rd_T27 t263 (wrap64 (Int.tmod (IntKind.u64.wrap (a0)) (IntKind.u64.wrap ((t263.length : Int)))))).f1) ((rd_T27 t263 (wrap64 (Int.tmod (IntKind.u64.wrap (a0)) (IntKind.u64.wrap ((t263.length : Int)))))).f2) ((rd_T27 t263 (wrap64 (Int.tmod (IntKind.u64.wrap (a0)) (IntKind.u64.wrap ((t263.length : Int)))))).f3)))))))) else (none)) else (none))))) = some r := h
  clear h
  replace H := Option.bind_eq_some_iff.mp H
  obtain ⟨t263, A20, H⟩ := H
  replace H : (if (t263.length : Int) = 0 then (some false) else (if (IntKind.u64.wrap ((t263.length : Int))) = 0 then (none) else (if 0 ≤ (wrap64 (Int.tmod (IntKind.u64.wrap (a0)) (IntKind.u64.wrap ((t263.length : Int))))) then (if (wrap64 (Int.tmod (IntKind.u64.wrap (a0)) (IntKind.u64.wrap ((t263.length : Int))))) < (t263.length : Int) then ((attr_Kinds.f k ((rd_T27 t263 (wrap64 (Int.tmod (IntKind.u64.wrap (a0)) (IntKind.u64.wrap ((t263.length : Int)))))).f0)).bind fun t268 => (if (t268.length : Int) = 0 then (some false) else ((attr_Rule.f k ((rd_T27 t263 (wrap64 (Int.tmod (IntKind.u64.wrap (a0)) (IntKind.u64.wrap ((t263.length : Int)))))).f0)).bind fun t271 => (if t271 < 1 then (some false) else ((attr_Rule.f k ((rd_T27 t263 (wrap64 (Int.tmod (IntKind.u64.wrap (a0)) (IntKind.u64.wrap ((t263.length : Int)))))).f0)).bind fun t272 => (if t272 > 3 then (some false) else (sobriquetlaw22_AttrKinds.l0 k t268 0 ((rd_T27 t263 (wrap64 (Int.tmod (IntKind.u64.wrap (a0)) (IntKind.u64.wrap ((t263.length : Int)))))).f0) ((rd_T27 t263 (wrap64 (Int.tmod (IntKind.u64.wrap (a0)) (IntKind.u64.wrap ((t263.length : Int)))))).f1) ((rd_T27 t263 (wrap64 (Int.tmod (IntKind.u64.wrap (a0)) (IntKind.u64.wrap ((t263.length : Int)))))).f2) ((rd_T27 t263 (wrap64 (Int.tmod (IntKind.u64.wrap (a0)) (IntKind.u64.wrap ((t263.length : Int)))))).f3)))))))) else (none)) else (none)))) = some r := H
  have A2 := Aside0.mk A20
  clear A20
  by_cases c3 : (t263.length : Int) = 0
  · rw [if_pos c3] at H
    have c3b0 : ((t263.length : Int) == 0) = true := beq_iff_eq.mpr c3
    have c3b1 : ((t263.length : Int) != 0) = false := bne_eq_false_iff_eq.mpr c3
    clear c3
    exact absurd ((Option.some.inj H).trans hrt.out) (by decide)
  · rw [if_neg c3] at H
    have c3b0 : ((t263.length : Int) == 0) = false := beq_eq_false_iff_ne.mpr c3
    have c3b1 : ((t263.length : Int) != 0) = true := bne_iff_ne.mpr c3
    have c3b2 : ¬ (t263 = []) := fun h_ => c3 (by rw [h_]; rfl)
    by_cases c4 : (IntKind.u64.wrap ((t263.length : Int))) = 0
    · rw [if_pos c4] at H
      exact absurd H (by simp)
    · rw [if_neg c4] at H
      have c4b0 : ((IntKind.u64.wrap ((t263.length : Int))) == 0) = false := beq_eq_false_iff_ne.mpr c4
      have c4b1 : ((IntKind.u64.wrap ((t263.length : Int))) != 0) = true := bne_iff_ne.mpr c4
      obtain ⟨ji5, hji5⟩ : ∃ j_ : Int, (wrap64 (Int.tmod (IntKind.u64.wrap (a0)) (IntKind.u64.wrap ((t263.length : Int))))) = j_ := ⟨_, rfl⟩
      replace H : (if 0 ≤ (ji5) then (if (ji5) < (t263.length : Int) then ((attr_Kinds.f k ((rd_T27 t263 (ji5)).f0)).bind fun t268 => (if (t268.length : Int) = 0 then (some false) else ((attr_Rule.f k ((rd_T27 t263 (ji5)).f0)).bind fun t271 => (if t271 < 1 then (some false) else ((attr_Rule.f k ((rd_T27 t263 (ji5)).f0)).bind fun t272 => (if t272 > 3 then (some false) else (sobriquetlaw22_AttrKinds.l0 k t268 0 ((rd_T27 t263 (ji5)).f0) ((rd_T27 t263 (ji5)).f1) ((rd_T27 t263 (ji5)).f2) ((rd_T27 t263 (ji5)).f3)))))))) else (none)) else (none)) = some r := by first | (rw [hji5] at H; exact H) | (simp only [hji5] at H ⊢; exact H)
      (try rw [hji5] at A2)
      have hji5w : (IntKind.i64.wrap (Int.tmod (IntKind.u64.wrap (a0)) (IntKind.u64.wrap ((t263.length : Int))))) = ji5 := (i64_w _).trans hji5
      by_cases c6 : 0 ≤ (ji5)
      · rw [if_pos c6] at H
        have c6b0 : decide (0 ≤ (ji5)) = true := decide_eq_true c6
        clear c6
        by_cases c7 : (ji5) < (t263.length : Int)
        · rw [if_pos c7] at H
          have c7b0 : decide ((ji5) < (t263.length : Int)) = true := decide_eq_true c7
          clear c7
          replace H := Option.bind_eq_some_iff.mp H
          obtain ⟨t268, A80, H⟩ := H
          replace H : (if (t268.length : Int) = 0 then (some false) else ((attr_Rule.f k ((rd_T27 t263 (ji5)).f0)).bind fun t271 => (if t271 < 1 then (some false) else ((attr_Rule.f k ((rd_T27 t263 (ji5)).f0)).bind fun t272 => (if t272 > 3 then (some false) else (sobriquetlaw22_AttrKinds.l0 k t268 0 ((rd_T27 t263 (ji5)).f0) ((rd_T27 t263 (ji5)).f1) ((rd_T27 t263 (ji5)).f2) ((rd_T27 t263 (ji5)).f3))))))) = some r := H
          have A8 := Aside0.mk A80
          clear A80
          by_cases c9 : (t268.length : Int) = 0
          · rw [if_pos c9] at H
            have c9b0 : ((t268.length : Int) == 0) = true := beq_iff_eq.mpr c9
            have c9b1 : ((t268.length : Int) != 0) = false := bne_eq_false_iff_eq.mpr c9
            clear c9
            exact absurd ((Option.some.inj H).trans hrt.out) (by decide)
          · rw [if_neg c9] at H
            have c9b0 : ((t268.length : Int) == 0) = false := beq_eq_false_iff_ne.mpr c9
            have c9b1 : ((t268.length : Int) != 0) = true := bne_iff_ne.mpr c9
            have c9b2 : ¬ (t268 = []) := fun h_ => c9 (by rw [h_]; rfl)
            replace H := Option.bind_eq_some_iff.mp H
            obtain ⟨t271, A100, H⟩ := H
            replace H : (if t271 < 1 then (some false) else ((attr_Rule.f k ((rd_T27 t263 (ji5)).f0)).bind fun t272 => (if t272 > 3 then (some false) else (sobriquetlaw22_AttrKinds.l0 k t268 0 ((rd_T27 t263 (ji5)).f0) ((rd_T27 t263 (ji5)).f1) ((rd_T27 t263 (ji5)).f2) ((rd_T27 t263 (ji5)).f3))))) = some r := H
            have A10 := Aside0.mk A100
            clear A100
            by_cases c11 : t271 < 1
            · rw [if_pos c11] at H
              have c11b0 : decide (t271 < 1) = true := decide_eq_true c11
              clear c11
              exact absurd ((Option.some.inj H).trans hrt.out) (by decide)
            · rw [if_neg c11] at H
              have c11b0 : decide (t271 < 1) = false := decide_eq_false c11
              clear c11
              replace H := Option.bind_eq_some_iff.mp H
              obtain ⟨t272, A120, H⟩ := H
              replace H : (if t272 > 3 then (some false) else (sobriquetlaw22_AttrKinds.l0 k t268 0 ((rd_T27 t263 (ji5)).f0) ((rd_T27 t263 (ji5)).f1) ((rd_T27 t263 (ji5)).f2) ((rd_T27 t263 (ji5)).f3))) = some r := H
              have A12 := Aside0.mk A120
              clear A120
              by_cases c13 : t272 > 3
              · rw [if_pos c13] at H
                have c13b0 : decide (3 < t272) = true := decide_eq_true c13
                clear c13
                exact absurd ((Option.some.inj H).trans hrt.out) (by decide)
              · rw [if_neg c13] at H
                have c13b0 : decide (3 < t272) = false := decide_eq_false c13
                have c13c0 : decide (3 < t271) = false := by rw [Option.some.inj (A10.out.symm.trans A12.out)]; exact c13b0
                clear c13
                have H' := Aside0.mk H
                clear H
                go_enter Try.func5, Try.ntmps5
                go_wp2_with (first | (go_at_call 7; (with_reducible refine (api_Attrs.calls  t263 _ A2.out).mono ?_); rintro e w14 ⟨v264, rfl, ho0, hb⟩; have n0_ := Aside0.mk (Kd.N_lower (Kd.N_mono (ok' := fun k_ => True) ho0 (fun k_ hk_ => trivial)) (below_size (by repeat (first | (with_reducible first | exact HB.out | apply below_alloc | apply pw_below_drewN | apply below_drew1) | exact HB.out)))); have n1_ := Aside0.mk (below_step (by repeat (first | (with_reducible first | exact HB.out | apply below_alloc | apply pw_below_drewN | apply below_drew1) | exact HB.out)) hb); clear HB; have HO265 := n0_; have HB := n1_; clear n0_ n1_; (try clear hb); (try clear hb2); (try clear hk); (try clear hi); (try clear ho0); obtain ⟨Ao15, co15, eo15⟩ := Kd.N_slice HO265.out; subst eo15; have p266 : 0 ≤ ((ji5) : Int) := of_decide_eq_true (by first | (with_reducible assumption) | assumption); have q266 : (ji5) < (t263.length : Int) := of_decide_eq_true (by first | (with_reducible assumption) | assumption); obtain ⟨ad266, A266_0, c266_0, A266_3, c266_3, e266, hx266_0, hx266_1, hx266_2, hx266_3, hl266_0, hi266_0, hl266_3, hi266_3⟩ := at_T27 (Kd.N_reads' HO265.out).2.2 (ji5) p266 q266; cases e266; obtain ⟨ce266, hce266, hMe266, hcc266⟩ := Kd.N_get HO265.out z27 (ji5) p266 (by first | exact q266 | exact of_decide_eq_true (by first | (with_reducible assumption) | assumption) | (have e_ := (Kd.N_reads' HO265.out).1; omega)); obtain ⟨ua266_0, uc266_0, ua266_3, uc266_3, rfl, ul266_0, ge266_0, ul266_3, ge266_3⟩ := k27_openF hMe266; have hv266_0 := hcc266 0 _ rfl; rw [Nat.add_zero] at hv266_0; replace hv266_0 := Option.some.inj (hv266_0.symm.trans hx266_0); injection hv266_0 with hva_ hvn_ hvc_; rw [hva_] at ge266_0; rw [hvc_] at ul266_0; have HL266_0 := Aside0.mk (show Kd.V (Kd.int .i64) 3 _ w.heap.size _ _ ((rd_T27 t263 (ji5)).f0) from Kd.V_mk ul266_0 ge266_0); clear hva_ hvn_ hvc_ ge266_0 ul266_0; have hv266_3 := hcc266 3 _ rfl; rw [add_field _ _ 3 (by omega)] at hv266_3; replace hv266_3 := Option.some.inj (hv266_3.symm.trans hx266_3); injection hv266_3 with hva_ hvn_ hvc_; rw [hva_] at ge266_3; rw [hvc_] at ul266_3; have HL266_3 := Aside0.mk (show Kd.V (Kd.int .i64) 3 _ w.heap.size _ _ ((rd_T27 t263 (ji5)).f3) from Kd.V_mk ul266_3 ge266_3); clear hva_ hvn_ hvc_ ge266_3 ul266_3; clear hcc266 hce266; have HR266_0 := Aside0.mk hi266_0; have HC266_0 := Aside0.mk hl266_0; clear hi266_0 hl266_0; have HR266_3 := Aside0.mk hi266_3; have HC266_3 := Aside0.mk hl266_3; clear hi266_3 hl266_3; replace p266 := eq_true p266; replace q266 := eq_true q266) | ((with_reducible refine gate_dst (N := 4) rfl ?_); refine box_event ?hg (N := 4) ?hd (cs := #[.slice none 0 0, .string (⟨#[]⟩ : ByteArray), .int .i64 0, .slice none 0 0]) (t := 27) ?hr ?_; (case hd => rfl); (case hg => rfl); (case hr => first | (go_simp; done) | (go_simp; rfl)); intro gb267 hg w16 hbox hb; have n0_ := Aside0.mk (Kd.N_below (Kd.N_elderB (by (with_reducible repeat (first | apply Kd.N_alloc | apply Kd.N_drewN | apply Kd.N_drew)); exact HO265.out) gb267 (Nat.le_of_eq hg.symm)) hb); have n1_ := Aside0.mk (Kd.V_below (Kd.V_elderB (by (with_reducible repeat (first | apply Kd.V_alloc | apply Kd.V_drewN | apply Kd.V_drew)); exact HL266_0.out) gb267 (Nat.le_of_eq hg.symm)) hb); have n2_ := Aside0.mk (Kd.V_below (Kd.V_elderB (by (with_reducible repeat (first | apply Kd.V_alloc | apply Kd.V_drewN | apply Kd.V_drew)); exact HL266_3.out) gb267 (Nat.le_of_eq hg.symm)) hb); have n3_ := Aside0.mk (Kd.C_below (by repeat (first | (with_reducible exact HR266_0.out) | (with_reducible refine Kd.C_alloc ?_ _) | (with_reducible refine Kd.C_drewN ?_ _) | (with_reducible refine Kd.C_drew ?_) | exact HR266_0.out)) hb); have n4_ := Aside0.mk (Kd.C_below (by repeat (first | (with_reducible exact HR266_3.out) | (with_reducible refine Kd.C_alloc ?_ _) | (with_reducible refine Kd.C_drewN ?_ _) | (with_reducible refine Kd.C_drew ?_) | exact HR266_3.out)) hb); have n5_ := Aside0.mk (below_step (by repeat (first | (with_reducible first | exact HB.out | apply below_alloc | apply pw_below_drewN | apply below_drew1) | exact HB.out)) hb); have n6_ := Aside0.mk (hbox); have n7_ := Aside0.mk ((by rw [hg]; exact (below_size (by repeat (first | (with_reducible first | exact HB.out | apply below_alloc | apply pw_below_drewN | apply below_drew1) | exact HB.out))) : w.heap.size ≤ gb267)); have n8_ := Aside0.mk ((by rw [hg]; exact (below_size (by repeat (first | (with_reducible first | exact HB.out | apply below_alloc | apply pw_below_drewN | apply below_drew1) | exact HB.out))) : w.heap.size ≤ gb267)); clear HO265; clear HL266_0; clear HL266_3; clear HR266_0; clear HR266_3; clear HB; have HO265 := n0_; have HL266_0 := n1_; have HL266_3 := n2_; have HR266_0 := n3_; have HR266_3 := n4_; have HB := n5_; have BK267 := n6_; have GW267 := n7_; have GE267 := n8_; clear n0_ n1_ n2_ n3_ n4_ n5_ n6_ n7_ n8_; clear hb hbox hg; have hcz17_0 : w16.cell? ⟨gb267, 0, none⟩ = some (.slice none 0 0) := (blk_cell BK267.out 0).trans rfl; have hcz17_1 : w16.cell? ⟨gb267, 1, none⟩ = some (.string (⟨#[]⟩ : ByteArray)) := (blk_cell BK267.out 1).trans rfl; have hcz17_2 : w16.cell? ⟨gb267, 2, none⟩ = some (.int .i64 0) := (blk_cell BK267.out 2).trans rfl; have hcz17_3 : w16.cell? ⟨gb267, 3, none⟩ = some (.slice none 0 0) := (blk_cell BK267.out 3).trans rfl; have hfz17_0 := blk_frozen BK267.out 0; have hfz17_1 := blk_frozen BK267.out 1; have hfz17_2 := blk_frozen BK267.out 2; have hfz17_3 := blk_frozen BK267.out 3) | (go_at_call 13; (with_reducible refine (attr_Kinds.calls k _ _ ((rd_T27 t263 (ji5)).f0) t268 _ ?side1 ?side2 A8.out).mono ?_); (case side1 => repeat (first | exact ((Kd.V_reads' (by (with_reducible repeat (first | apply Kd.V_alloc | apply Kd.V_drewN | apply Kd.V_drew)); exact (Kd.V_mono (Kd.V_far (p := ⟨gb267, 3, none⟩) (Kd.V_far (p := ⟨gb267, 2, none⟩) (Kd.V_far (p := ⟨gb267, 1, none⟩) (Kd.V_far (p := ⟨gb267, 0, none⟩) (Kd.V_mono HL266_0.out (fun k_ hk => (⟨hk, hk.2⟩ : _ ∧ k_ ≠ gb267))) (fun _ hk => hk.2) (.slice A266_0 ((rd_T27 t263 (ji5)).f0).length c266_0)) (fun _ hk => hk.2) (.string ((rd_T27 t263 (ji5)).f1))) (fun _ hk => hk.2) (.int .i64 ((rd_T27 t263 (ji5)).f2))) (fun _ hk => hk.2) (.slice A266_3 ((rd_T27 t263 (ji5)).f3).length c266_3)) (fun _ h_ => h_.1)))).2.2) | (with_reducible refine Kd.C_alloc ?_ _) | (with_reducible refine Kd.C_drewN ?_ _) | (with_reducible refine Kd.C_drew ?_))); (case side2 => exact HC266_0.out); rintro e w18 ⟨v269, rfl, ho0, hb⟩; have n0_ := Aside0.mk (Kd.N_elder' (by (with_reducible repeat (first | apply Kd.N_alloc | apply Kd.N_drewN | apply Kd.N_drew)); exact (Kd.N_mono (Kd.N_far (p := ⟨gb267, 3, none⟩) (Kd.N_far (p := ⟨gb267, 2, none⟩) (Kd.N_far (p := ⟨gb267, 1, none⟩) (Kd.N_far (p := ⟨gb267, 0, none⟩) (Kd.N_mono HO265.out (fun k_ hk => (⟨hk, hk.2⟩ : _ ∧ k_ ≠ gb267))) (fun _ hk => hk.2) (.slice A266_0 ((rd_T27 t263 (ji5)).f0).length c266_0)) (fun _ hk => hk.2) (.string ((rd_T27 t263 (ji5)).f1))) (fun _ hk => hk.2) (.int .i64 ((rd_T27 t263 (ji5)).f2))) (fun _ hk => hk.2) (.slice A266_3 ((rd_T27 t263 (ji5)).f3).length c266_3)) (fun _ h_ => h_.1))) (Kd.R_base ho0) hb); have n1_ := Aside0.mk (Kd.V_elder' (by (with_reducible repeat (first | apply Kd.V_alloc | apply Kd.V_drewN | apply Kd.V_drew)); exact (Kd.V_mono (Kd.V_far (p := ⟨gb267, 3, none⟩) (Kd.V_far (p := ⟨gb267, 2, none⟩) (Kd.V_far (p := ⟨gb267, 1, none⟩) (Kd.V_far (p := ⟨gb267, 0, none⟩) (Kd.V_mono HL266_0.out (fun k_ hk => (⟨hk, hk.2⟩ : _ ∧ k_ ≠ gb267))) (fun _ hk => hk.2) (.slice A266_0 ((rd_T27 t263 (ji5)).f0).length c266_0)) (fun _ hk => hk.2) (.string ((rd_T27 t263 (ji5)).f1))) (fun _ hk => hk.2) (.int .i64 ((rd_T27 t263 (ji5)).f2))) (fun _ hk => hk.2) (.slice A266_3 ((rd_T27 t263 (ji5)).f3).length c266_3)) (fun _ h_ => h_.1))) (Kd.R_base ho0) hb); have n2_ := Aside0.mk (Kd.V_elder' (by (with_reducible repeat (first | apply Kd.V_alloc | apply Kd.V_drewN | apply Kd.V_drew)); exact (Kd.V_mono (Kd.V_far (p := ⟨gb267, 3, none⟩) (Kd.V_far (p := ⟨gb267, 2, none⟩) (Kd.V_far (p := ⟨gb267, 1, none⟩) (Kd.V_far (p := ⟨gb267, 0, none⟩) (Kd.V_mono HL266_3.out (fun k_ hk => (⟨hk, hk.2⟩ : _ ∧ k_ ≠ gb267))) (fun _ hk => hk.2) (.slice A266_0 ((rd_T27 t263 (ji5)).f0).length c266_0)) (fun _ hk => hk.2) (.string ((rd_T27 t263 (ji5)).f1))) (fun _ hk => hk.2) (.int .i64 ((rd_T27 t263 (ji5)).f2))) (fun _ hk => hk.2) (.slice A266_3 ((rd_T27 t263 (ji5)).f3).length c266_3)) (fun _ h_ => h_.1))) (Kd.R_base ho0) hb); have n3_ := Aside0.mk (Kd.R_lower ho0 (below_size (by repeat (first | (with_reducible first | exact HB.out | apply below_alloc | apply pw_below_drewN | apply below_drew1 | refine below_set ?_ GE267.out) | exact HB.out)))); have n4_ := Aside0.mk (Kd.C_below ((Kd.V_reads' (by (with_reducible repeat (first | apply Kd.V_alloc | apply Kd.V_drewN | apply Kd.V_drew)); exact (Kd.V_mono (Kd.V_far (p := ⟨gb267, 3, none⟩) (Kd.V_far (p := ⟨gb267, 2, none⟩) (Kd.V_far (p := ⟨gb267, 1, none⟩) (Kd.V_far (p := ⟨gb267, 0, none⟩) (Kd.V_mono HL266_0.out (fun k_ hk => (⟨hk, hk.2⟩ : _ ∧ k_ ≠ gb267))) (fun _ hk => hk.2) (.slice A266_0 ((rd_T27 t263 (ji5)).f0).length c266_0)) (fun _ hk => hk.2) (.string ((rd_T27 t263 (ji5)).f1))) (fun _ hk => hk.2) (.int .i64 ((rd_T27 t263 (ji5)).f2))) (fun _ hk => hk.2) (.slice A266_3 ((rd_T27 t263 (ji5)).f3).length c266_3)) (fun _ h_ => h_.1)))).2.2) hb); have n5_ := Aside0.mk (Kd.C_below ((Kd.V_reads' (by (with_reducible repeat (first | apply Kd.V_alloc | apply Kd.V_drewN | apply Kd.V_drew)); exact (Kd.V_mono (Kd.V_far (p := ⟨gb267, 3, none⟩) (Kd.V_far (p := ⟨gb267, 2, none⟩) (Kd.V_far (p := ⟨gb267, 1, none⟩) (Kd.V_far (p := ⟨gb267, 0, none⟩) (Kd.V_mono HL266_3.out (fun k_ hk => (⟨hk, hk.2⟩ : _ ∧ k_ ≠ gb267))) (fun _ hk => hk.2) (.slice A266_0 ((rd_T27 t263 (ji5)).f0).length c266_0)) (fun _ hk => hk.2) (.string ((rd_T27 t263 (ji5)).f1))) (fun _ hk => hk.2) (.int .i64 ((rd_T27 t263 (ji5)).f2))) (fun _ hk => hk.2) (.slice A266_3 ((rd_T27 t263 (ji5)).f3).length c266_3)) (fun _ h_ => h_.1)))).2.2) hb); have n6_ := Aside0.mk (blk_below (g := gb267) (o := .cells #[.slice A266_0 ((rd_T27 t263 (ji5)).f0).length c266_0, .string ((rd_T27 t263 (ji5)).f1), .int .i64 ((rd_T27 t263 (ji5)).f2), .slice A266_3 ((rd_T27 t263 (ji5)).f3).length c266_3] 27 (0, 0)) (by (with_reducible repeat (first | refine blk_drewN ?_ _ | refine blk_drew ?_ | refine blk_alloc ?_ _)); refine blk_put (cs := #[.slice A266_0 ((rd_T27 t263 (ji5)).f0).length c266_0, .string ((rd_T27 t263 (ji5)).f1), .int .i64 ((rd_T27 t263 (ji5)).f2), .slice none 0 0]) ?_ 3 _ rfl; (with_reducible repeat (first | refine blk_drewN ?_ _ | refine blk_drew ?_ | refine blk_alloc ?_ _)); refine blk_put (cs := #[.slice A266_0 ((rd_T27 t263 (ji5)).f0).length c266_0, .string ((rd_T27 t263 (ji5)).f1), .int .i64 0, .slice none 0 0]) ?_ 2 _ rfl; (with_reducible repeat (first | refine blk_drewN ?_ _ | refine blk_drew ?_ | refine blk_alloc ?_ _)); refine blk_put (cs := #[.slice A266_0 ((rd_T27 t263 (ji5)).f0).length c266_0, .string (⟨#[]⟩ : ByteArray), .int .i64 0, .slice none 0 0]) ?_ 1 _ rfl; (with_reducible repeat (first | refine blk_drewN ?_ _ | refine blk_drew ?_ | refine blk_alloc ?_ _)); refine blk_put (cs := #[.slice none 0 0, .string (⟨#[]⟩ : ByteArray), .int .i64 0, .slice none 0 0]) ?_ 0 _ rfl; (with_reducible repeat (first | refine blk_drewN ?_ _ | refine blk_drew ?_ | refine blk_alloc ?_ _)); exact BK267.out) hb); have n7_ := Aside0.mk (below_step (by repeat (first | (with_reducible first | exact HB.out | apply below_alloc | apply pw_below_drewN | apply below_drew1 | refine below_set ?_ GE267.out) | exact HB.out)) hb); clear HO265; clear HL266_0; clear HL266_3; clear HR266_0; clear HR266_3; clear BK267; clear HB; have HO265 := n0_; have HL266_0 := n1_; have HL266_3 := n2_; have HO270 := n3_; have HR266_0 := n4_; have HR266_3 := n5_; have BK267 := n6_; have HB := n7_; clear n0_ n1_ n2_ n3_ n4_ n5_ n6_ n7_; (try clear hb); (try clear hb2); (try clear hk); (try clear hi); (try clear ho0); obtain ⟨Ao19, co19, eo19⟩ := Kd.R_slice HO270.out; subst eo19; have hcz20_0 : w18.cell? ⟨gb267, 0, none⟩ = some (.slice A266_0 ((rd_T27 t263 (ji5)).f0).length c266_0) := (blk_cell BK267.out 0).trans rfl; have hcz20_1 : w18.cell? ⟨gb267, 1, none⟩ = some (.string ((rd_T27 t263 (ji5)).f1)) := (blk_cell BK267.out 1).trans rfl; have hcz20_2 : w18.cell? ⟨gb267, 2, none⟩ = some (.int .i64 ((rd_T27 t263 (ji5)).f2)) := (blk_cell BK267.out 2).trans rfl; have hcz20_3 : w18.cell? ⟨gb267, 3, none⟩ = some (.slice A266_3 ((rd_T27 t263 (ji5)).f3).length c266_3) := (blk_cell BK267.out 3).trans rfl; have hfz20_0 := blk_frozen BK267.out 0; have hfz20_1 := blk_frozen BK267.out 1; have hfz20_2 := blk_frozen BK267.out 2; have hfz20_3 := blk_frozen BK267.out 3) | (go_at_call 12; (with_reducible refine (attr_Rule.calls k _ _ ((rd_T27 t263 (ji5)).f0) t271 _ ?side1 ?side2 A10.out).mono ?_); (case side1 => repeat (first | exact (by repeat (first | (with_reducible exact HR266_0.out) | (with_reducible refine Kd.C_alloc ?_ _) | (with_reducible refine Kd.C_drewN ?_ _) | (with_reducible refine Kd.C_drew ?_) | exact HR266_0.out)) | (with_reducible refine Kd.C_alloc ?_ _) | (with_reducible refine Kd.C_drewN ?_ _) | (with_reducible refine Kd.C_drew ?_))); (case side2 => exact HC266_0.out); rintro e w21 ⟨rfl, hb⟩; have n0_ := Aside0.mk (Kd.N_below (by (with_reducible repeat (first | apply Kd.N_alloc | apply Kd.N_drewN | apply Kd.N_drew)); exact HO265.out) hb); have n1_ := Aside0.mk (Kd.V_below (by (with_reducible repeat (first | apply Kd.V_alloc | apply Kd.V_drewN | apply Kd.V_drew)); exact HL266_0.out) hb); have n2_ := Aside0.mk (Kd.V_below (by (with_reducible repeat (first | apply Kd.V_alloc | apply Kd.V_drewN | apply Kd.V_drew)); exact HL266_3.out) hb); have n3_ := Aside0.mk (Kd.R_below (by (with_reducible repeat (first | apply Kd.R_alloc | apply Kd.R_drewN | apply Kd.R_drew)); exact HO270.out) hb); have n4_ := Aside0.mk (Kd.C_below (by repeat (first | (with_reducible exact HR266_0.out) | (with_reducible refine Kd.C_alloc ?_ _) | (with_reducible refine Kd.C_drewN ?_ _) | (with_reducible refine Kd.C_drew ?_) | exact HR266_0.out)) hb); have n5_ := Aside0.mk (Kd.C_below (by repeat (first | (with_reducible exact HR266_3.out) | (with_reducible refine Kd.C_alloc ?_ _) | (with_reducible refine Kd.C_drewN ?_ _) | (with_reducible refine Kd.C_drew ?_) | exact HR266_3.out)) hb); have n6_ := Aside0.mk (blk_below (g := gb267) (o := .cells #[.slice A266_0 ((rd_T27 t263 (ji5)).f0).length c266_0, .string ((rd_T27 t263 (ji5)).f1), .int .i64 ((rd_T27 t263 (ji5)).f2), .slice A266_3 ((rd_T27 t263 (ji5)).f3).length c266_3] 27 (0, 0)) (by (with_reducible repeat (first | refine blk_drewN ?_ _ | refine blk_drew ?_ | refine blk_alloc ?_ _)); exact BK267.out) hb); have n7_ := Aside0.mk (below_step (by repeat (first | (with_reducible first | exact HB.out | apply below_alloc | apply pw_below_drewN | apply below_drew1 | refine below_set ?_ GE267.out) | exact HB.out)) hb); clear HO265; clear HL266_0; clear HL266_3; clear HO270; clear HR266_0; clear HR266_3; clear BK267; clear HB; have HO265 := n0_; have HL266_0 := n1_; have HL266_3 := n2_; have HO270 := n3_; have HR266_0 := n4_; have HR266_3 := n5_; have BK267 := n6_; have HB := n7_; clear n0_ n1_ n2_ n3_ n4_ n5_ n6_ n7_; (try clear hb); (try clear hb2); (try clear hk); (try clear hi); have hcz22_0 : w21.cell? ⟨gb267, 0, none⟩ = some (.slice A266_0 ((rd_T27 t263 (ji5)).f0).length c266_0) := (blk_cell BK267.out 0).trans rfl; have hcz22_1 : w21.cell? ⟨gb267, 1, none⟩ = some (.string ((rd_T27 t263 (ji5)).f1)) := (blk_cell BK267.out 1).trans rfl; have hcz22_2 : w21.cell? ⟨gb267, 2, none⟩ = some (.int .i64 ((rd_T27 t263 (ji5)).f2)) := (blk_cell BK267.out 2).trans rfl; have hcz22_3 : w21.cell? ⟨gb267, 3, none⟩ = some (.slice A266_3 ((rd_T27 t263 (ji5)).f3).length c266_3) := (blk_cell BK267.out 3).trans rfl; have hfz22_0 := blk_frozen BK267.out 0; have hfz22_1 := blk_frozen BK267.out 1; have hfz22_2 := blk_frozen BK267.out 2; have hfz22_3 := blk_frozen BK267.out 3) | (go_at_call 12; (with_reducible refine (attr_Rule.calls k _ _ ((rd_T27 t263 (ji5)).f0) t272 _ ?side1 ?side2 A12.out).mono ?_); (case side1 => repeat (first | exact (by repeat (first | (with_reducible exact HR266_0.out) | (with_reducible refine Kd.C_alloc ?_ _) | (with_reducible refine Kd.C_drewN ?_ _) | (with_reducible refine Kd.C_drew ?_) | exact HR266_0.out)) | (with_reducible refine Kd.C_alloc ?_ _) | (with_reducible refine Kd.C_drewN ?_ _) | (with_reducible refine Kd.C_drew ?_))); (case side2 => exact HC266_0.out); rintro e w23 ⟨rfl, hb⟩; have n0_ := Aside0.mk (Kd.N_below (by (with_reducible repeat (first | apply Kd.N_alloc | apply Kd.N_drewN | apply Kd.N_drew)); exact HO265.out) hb); have n1_ := Aside0.mk (Kd.V_below (by (with_reducible repeat (first | apply Kd.V_alloc | apply Kd.V_drewN | apply Kd.V_drew)); exact HL266_0.out) hb); have n2_ := Aside0.mk (Kd.V_below (by (with_reducible repeat (first | apply Kd.V_alloc | apply Kd.V_drewN | apply Kd.V_drew)); exact HL266_3.out) hb); have n3_ := Aside0.mk (Kd.R_below (by (with_reducible repeat (first | apply Kd.R_alloc | apply Kd.R_drewN | apply Kd.R_drew)); exact HO270.out) hb); have n4_ := Aside0.mk (Kd.C_below (by repeat (first | (with_reducible exact HR266_0.out) | (with_reducible refine Kd.C_alloc ?_ _) | (with_reducible refine Kd.C_drewN ?_ _) | (with_reducible refine Kd.C_drew ?_) | exact HR266_0.out)) hb); have n5_ := Aside0.mk (Kd.C_below (by repeat (first | (with_reducible exact HR266_3.out) | (with_reducible refine Kd.C_alloc ?_ _) | (with_reducible refine Kd.C_drewN ?_ _) | (with_reducible refine Kd.C_drew ?_) | exact HR266_3.out)) hb); have n6_ := Aside0.mk (blk_below (g := gb267) (o := .cells #[.slice A266_0 ((rd_T27 t263 (ji5)).f0).length c266_0, .string ((rd_T27 t263 (ji5)).f1), .int .i64 ((rd_T27 t263 (ji5)).f2), .slice A266_3 ((rd_T27 t263 (ji5)).f3).length c266_3] 27 (0, 0)) (by (with_reducible repeat (first | refine blk_drewN ?_ _ | refine blk_drew ?_ | refine blk_alloc ?_ _)); exact BK267.out) hb); have n7_ := Aside0.mk (below_step (by repeat (first | (with_reducible first | exact HB.out | apply below_alloc | apply pw_below_drewN | apply below_drew1 | refine below_set ?_ GE267.out) | exact HB.out)) hb); clear HO265; clear HL266_0; clear HL266_3; clear HO270; clear HR266_0; clear HR266_3; clear BK267; clear HB; have HO265 := n0_; have HL266_0 := n1_; have HL266_3 := n2_; have HO270 := n3_; have HR266_0 := n4_; have HR266_3 := n5_; have BK267 := n6_; have HB := n7_; clear n0_ n1_ n2_ n3_ n4_ n5_ n6_ n7_; (try clear hb); (try clear hb2); (try clear hk); (try clear hi)))
                repeat (go_quiet (first | (go_at_call 7; (with_reducible refine (api_Attrs.calls  t263 _ A2.out).mono ?_); rintro e w14 ⟨v264, rfl, ho0, hb⟩; have n0_ := Aside0.mk (Kd.N_lower (Kd.N_mono (ok' := fun k_ => True) ho0 (fun k_ hk_ => trivial)) (below_size (by repeat (first | (with_reducible first | exact HB.out | apply below_alloc | apply pw_below_drewN | apply below_drew1) | exact HB.out)))); have n1_ := Aside0.mk (below_step (by repeat (first | (with_reducible first | exact HB.out | apply below_alloc | apply pw_below_drewN | apply below_drew1) | exact HB.out)) hb); clear HB; have HO265 := n0_; have HB := n1_; clear n0_ n1_; (try clear hb); (try clear hb2); (try clear hk); (try clear hi); (try clear ho0); obtain ⟨Ao15, co15, eo15⟩ := Kd.N_slice HO265.out; subst eo15; have p266 : 0 ≤ ((ji5) : Int) := of_decide_eq_true (by first | (with_reducible assumption) | assumption); have q266 : (ji5) < (t263.length : Int) := of_decide_eq_true (by first | (with_reducible assumption) | assumption); obtain ⟨ad266, A266_0, c266_0, A266_3, c266_3, e266, hx266_0, hx266_1, hx266_2, hx266_3, hl266_0, hi266_0, hl266_3, hi266_3⟩ := at_T27 (Kd.N_reads' HO265.out).2.2 (ji5) p266 q266; cases e266; obtain ⟨ce266, hce266, hMe266, hcc266⟩ := Kd.N_get HO265.out z27 (ji5) p266 (by first | exact q266 | exact of_decide_eq_true (by first | (with_reducible assumption) | assumption) | (have e_ := (Kd.N_reads' HO265.out).1; omega)); obtain ⟨ua266_0, uc266_0, ua266_3, uc266_3, rfl, ul266_0, ge266_0, ul266_3, ge266_3⟩ := k27_openF hMe266; have hv266_0 := hcc266 0 _ rfl; rw [Nat.add_zero] at hv266_0; replace hv266_0 := Option.some.inj (hv266_0.symm.trans hx266_0); injection hv266_0 with hva_ hvn_ hvc_; rw [hva_] at ge266_0; rw [hvc_] at ul266_0; have HL266_0 := Aside0.mk (show Kd.V (Kd.int .i64) 3 _ w.heap.size _ _ ((rd_T27 t263 (ji5)).f0) from Kd.V_mk ul266_0 ge266_0); clear hva_ hvn_ hvc_ ge266_0 ul266_0; have hv266_3 := hcc266 3 _ rfl; rw [add_field _ _ 3 (by omega)] at hv266_3; replace hv266_3 := Option.some.inj (hv266_3.symm.trans hx266_3); injection hv266_3 with hva_ hvn_ hvc_; rw [hva_] at ge266_3; rw [hvc_] at ul266_3; have HL266_3 := Aside0.mk (show Kd.V (Kd.int .i64) 3 _ w.heap.size _ _ ((rd_T27 t263 (ji5)).f3) from Kd.V_mk ul266_3 ge266_3); clear hva_ hvn_ hvc_ ge266_3 ul266_3; clear hcc266 hce266; have HR266_0 := Aside0.mk hi266_0; have HC266_0 := Aside0.mk hl266_0; clear hi266_0 hl266_0; have HR266_3 := Aside0.mk hi266_3; have HC266_3 := Aside0.mk hl266_3; clear hi266_3 hl266_3; replace p266 := eq_true p266; replace q266 := eq_true q266) | ((with_reducible refine gate_dst (N := 4) rfl ?_); refine box_event ?hg (N := 4) ?hd (cs := #[.slice none 0 0, .string (⟨#[]⟩ : ByteArray), .int .i64 0, .slice none 0 0]) (t := 27) ?hr ?_; (case hd => rfl); (case hg => rfl); (case hr => first | (go_simp; done) | (go_simp; rfl)); intro gb267 hg w16 hbox hb; have n0_ := Aside0.mk (Kd.N_below (Kd.N_elderB (by (with_reducible repeat (first | apply Kd.N_alloc | apply Kd.N_drewN | apply Kd.N_drew)); exact HO265.out) gb267 (Nat.le_of_eq hg.symm)) hb); have n1_ := Aside0.mk (Kd.V_below (Kd.V_elderB (by (with_reducible repeat (first | apply Kd.V_alloc | apply Kd.V_drewN | apply Kd.V_drew)); exact HL266_0.out) gb267 (Nat.le_of_eq hg.symm)) hb); have n2_ := Aside0.mk (Kd.V_below (Kd.V_elderB (by (with_reducible repeat (first | apply Kd.V_alloc | apply Kd.V_drewN | apply Kd.V_drew)); exact HL266_3.out) gb267 (Nat.le_of_eq hg.symm)) hb); have n3_ := Aside0.mk (Kd.C_below (by repeat (first | (with_reducible exact HR266_0.out) | (with_reducible refine Kd.C_alloc ?_ _) | (with_reducible refine Kd.C_drewN ?_ _) | (with_reducible refine Kd.C_drew ?_) | exact HR266_0.out)) hb); have n4_ := Aside0.mk (Kd.C_below (by repeat (first | (with_reducible exact HR266_3.out) | (with_reducible refine Kd.C_alloc ?_ _) | (with_reducible refine Kd.C_drewN ?_ _) | (with_reducible refine Kd.C_drew ?_) | exact HR266_3.out)) hb); have n5_ := Aside0.mk (below_step (by repeat (first | (with_reducible first | exact HB.out | apply below_alloc | apply pw_below_drewN | apply below_drew1) | exact HB.out)) hb); have n6_ := Aside0.mk (hbox); have n7_ := Aside0.mk ((by rw [hg]; exact (below_size (by repeat (first | (with_reducible first | exact HB.out | apply below_alloc | apply pw_below_drewN | apply below_drew1) | exact HB.out))) : w.heap.size ≤ gb267)); have n8_ := Aside0.mk ((by rw [hg]; exact (below_size (by repeat (first | (with_reducible first | exact HB.out | apply below_alloc | apply pw_below_drewN | apply below_drew1) | exact HB.out))) : w.heap.size ≤ gb267)); clear HO265; clear HL266_0; clear HL266_3; clear HR266_0; clear HR266_3; clear HB; have HO265 := n0_; have HL266_0 := n1_; have HL266_3 := n2_; have HR266_0 := n3_; have HR266_3 := n4_; have HB := n5_; have BK267 := n6_; have GW267 := n7_; have GE267 := n8_; clear n0_ n1_ n2_ n3_ n4_ n5_ n6_ n7_ n8_; clear hb hbox hg; have hcz17_0 : w16.cell? ⟨gb267, 0, none⟩ = some (.slice none 0 0) := (blk_cell BK267.out 0).trans rfl; have hcz17_1 : w16.cell? ⟨gb267, 1, none⟩ = some (.string (⟨#[]⟩ : ByteArray)) := (blk_cell BK267.out 1).trans rfl; have hcz17_2 : w16.cell? ⟨gb267, 2, none⟩ = some (.int .i64 0) := (blk_cell BK267.out 2).trans rfl; have hcz17_3 : w16.cell? ⟨gb267, 3, none⟩ = some (.slice none 0 0) := (blk_cell BK267.out 3).trans rfl; have hfz17_0 := blk_frozen BK267.out 0; have hfz17_1 := blk_frozen BK267.out 1; have hfz17_2 := blk_frozen BK267.out 2; have hfz17_3 := blk_frozen BK267.out 3) | (go_at_call 13; (with_reducible refine (attr_Kinds.calls k _ _ ((rd_T27 t263 (ji5)).f0) t268 _ ?side1 ?side2 A8.out).mono ?_); (case side1 => repeat (first | exact ((Kd.V_reads' (by (with_reducible repeat (first | apply Kd.V_alloc | apply Kd.V_drewN | apply Kd.V_drew)); exact (Kd.V_mono (Kd.V_far (p := ⟨gb267, 3, none⟩) (Kd.V_far (p := ⟨gb267, 2, none⟩) (Kd.V_far (p := ⟨gb267, 1, none⟩) (Kd.V_far (p := ⟨gb267, 0, none⟩) (Kd.V_mono HL266_0.out (fun k_ hk => (⟨hk, hk.2⟩ : _ ∧ k_ ≠ gb267))) (fun _ hk => hk.2) (.slice A266_0 ((rd_T27 t263 (ji5)).f0).length c266_0)) (fun _ hk => hk.2) (.string ((rd_T27 t263 (ji5)).f1))) (fun _ hk => hk.2) (.int .i64 ((rd_T27 t263 (ji5)).f2))) (fun _ hk => hk.2) (.slice A266_3 ((rd_T27 t263 (ji5)).f3).length c266_3)) (fun _ h_ => h_.1)))).2.2) | (with_reducible refine Kd.C_alloc ?_ _) | (with_reducible refine Kd.C_drewN ?_ _) | (with_reducible refine Kd.C_drew ?_))); (case side2 => exact HC266_0.out); rintro e w18 ⟨v269, rfl, ho0, hb⟩; have n0_ := Aside0.mk (Kd.N_elder' (by (with_reducible repeat (first | apply Kd.N_alloc | apply Kd.N_drewN | apply Kd.N_drew)); exact (Kd.N_mono (Kd.N_far (p := ⟨gb267, 3, none⟩) (Kd.N_far (p := ⟨gb267, 2, none⟩) (Kd.N_far (p := ⟨gb267, 1, none⟩) (Kd.N_far (p := ⟨gb267, 0, none⟩) (Kd.N_mono HO265.out (fun k_ hk => (⟨hk, hk.2⟩ : _ ∧ k_ ≠ gb267))) (fun _ hk => hk.2) (.slice A266_0 ((rd_T27 t263 (ji5)).f0).length c266_0)) (fun _ hk => hk.2) (.string ((rd_T27 t263 (ji5)).f1))) (fun _ hk => hk.2) (.int .i64 ((rd_T27 t263 (ji5)).f2))) (fun _ hk => hk.2) (.slice A266_3 ((rd_T27 t263 (ji5)).f3).length c266_3)) (fun _ h_ => h_.1))) (Kd.R_base ho0) hb); have n1_ := Aside0.mk (Kd.V_elder' (by (with_reducible repeat (first | apply Kd.V_alloc | apply Kd.V_drewN | apply Kd.V_drew)); exact (Kd.V_mono (Kd.V_far (p := ⟨gb267, 3, none⟩) (Kd.V_far (p := ⟨gb267, 2, none⟩) (Kd.V_far (p := ⟨gb267, 1, none⟩) (Kd.V_far (p := ⟨gb267, 0, none⟩) (Kd.V_mono HL266_0.out (fun k_ hk => (⟨hk, hk.2⟩ : _ ∧ k_ ≠ gb267))) (fun _ hk => hk.2) (.slice A266_0 ((rd_T27 t263 (ji5)).f0).length c266_0)) (fun _ hk => hk.2) (.string ((rd_T27 t263 (ji5)).f1))) (fun _ hk => hk.2) (.int .i64 ((rd_T27 t263 (ji5)).f2))) (fun _ hk => hk.2) (.slice A266_3 ((rd_T27 t263 (ji5)).f3).length c266_3)) (fun _ h_ => h_.1))) (Kd.R_base ho0) hb); have n2_ := Aside0.mk (Kd.V_elder' (by (with_reducible repeat (first | apply Kd.V_alloc | apply Kd.V_drewN | apply Kd.V_drew)); exact (Kd.V_mono (Kd.V_far (p := ⟨gb267, 3, none⟩) (Kd.V_far (p := ⟨gb267, 2, none⟩) (Kd.V_far (p := ⟨gb267, 1, none⟩) (Kd.V_far (p := ⟨gb267, 0, none⟩) (Kd.V_mono HL266_3.out (fun k_ hk => (⟨hk, hk.2⟩ : _ ∧ k_ ≠ gb267))) (fun _ hk => hk.2) (.slice A266_0 ((rd_T27 t263 (ji5)).f0).length c266_0)) (fun _ hk => hk.2) (.string ((rd_T27 t263 (ji5)).f1))) (fun _ hk => hk.2) (.int .i64 ((rd_T27 t263 (ji5)).f2))) (fun _ hk => hk.2) (.slice A266_3 ((rd_T27 t263 (ji5)).f3).length c266_3)) (fun _ h_ => h_.1))) (Kd.R_base ho0) hb); have n3_ := Aside0.mk (Kd.R_lower ho0 (below_size (by repeat (first | (with_reducible first | exact HB.out | apply below_alloc | apply pw_below_drewN | apply below_drew1 | refine below_set ?_ GE267.out) | exact HB.out)))); have n4_ := Aside0.mk (Kd.C_below ((Kd.V_reads' (by (with_reducible repeat (first | apply Kd.V_alloc | apply Kd.V_drewN | apply Kd.V_drew)); exact (Kd.V_mono (Kd.V_far (p := ⟨gb267, 3, none⟩) (Kd.V_far (p := ⟨gb267, 2, none⟩) (Kd.V_far (p := ⟨gb267, 1, none⟩) (Kd.V_far (p := ⟨gb267, 0, none⟩) (Kd.V_mono HL266_0.out (fun k_ hk => (⟨hk, hk.2⟩ : _ ∧ k_ ≠ gb267))) (fun _ hk => hk.2) (.slice A266_0 ((rd_T27 t263 (ji5)).f0).length c266_0)) (fun _ hk => hk.2) (.string ((rd_T27 t263 (ji5)).f1))) (fun _ hk => hk.2) (.int .i64 ((rd_T27 t263 (ji5)).f2))) (fun _ hk => hk.2) (.slice A266_3 ((rd_T27 t263 (ji5)).f3).length c266_3)) (fun _ h_ => h_.1)))).2.2) hb); have n5_ := Aside0.mk (Kd.C_below ((Kd.V_reads' (by (with_reducible repeat (first | apply Kd.V_alloc | apply Kd.V_drewN | apply Kd.V_drew)); exact (Kd.V_mono (Kd.V_far (p := ⟨gb267, 3, none⟩) (Kd.V_far (p := ⟨gb267, 2, none⟩) (Kd.V_far (p := ⟨gb267, 1, none⟩) (Kd.V_far (p := ⟨gb267, 0, none⟩) (Kd.V_mono HL266_3.out (fun k_ hk => (⟨hk, hk.2⟩ : _ ∧ k_ ≠ gb267))) (fun _ hk => hk.2) (.slice A266_0 ((rd_T27 t263 (ji5)).f0).length c266_0)) (fun _ hk => hk.2) (.string ((rd_T27 t263 (ji5)).f1))) (fun _ hk => hk.2) (.int .i64 ((rd_T27 t263 (ji5)).f2))) (fun _ hk => hk.2) (.slice A266_3 ((rd_T27 t263 (ji5)).f3).length c266_3)) (fun _ h_ => h_.1)))).2.2) hb); have n6_ := Aside0.mk (blk_below (g := gb267) (o := .cells #[.slice A266_0 ((rd_T27 t263 (ji5)).f0).length c266_0, .string ((rd_T27 t263 (ji5)).f1), .int .i64 ((rd_T27 t263 (ji5)).f2), .slice A266_3 ((rd_T27 t263 (ji5)).f3).length c266_3] 27 (0, 0)) (by (with_reducible repeat (first | refine blk_drewN ?_ _ | refine blk_drew ?_ | refine blk_alloc ?_ _)); refine blk_put (cs := #[.slice A266_0 ((rd_T27 t263 (ji5)).f0).length c266_0, .string ((rd_T27 t263 (ji5)).f1), .int .i64 ((rd_T27 t263 (ji5)).f2), .slice none 0 0]) ?_ 3 _ rfl; (with_reducible repeat (first | refine blk_drewN ?_ _ | refine blk_drew ?_ | refine blk_alloc ?_ _)); refine blk_put (cs := #[.slice A266_0 ((rd_T27 t263 (ji5)).f0).length c266_0, .string ((rd_T27 t263 (ji5)).f1), .int .i64 0, .slice none 0 0]) ?_ 2 _ rfl; (with_reducible repeat (first | refine blk_drewN ?_ _ | refine blk_drew ?_ | refine blk_alloc ?_ _)); refine blk_put (cs := #[.slice A266_0 ((rd_T27 t263 (ji5)).f0).length c266_0, .string (⟨#[]⟩ : ByteArray), .int .i64 0, .slice none 0 0]) ?_ 1 _ rfl; (with_reducible repeat (first | refine blk_drewN ?_ _ | refine blk_drew ?_ | refine blk_alloc ?_ _)); refine blk_put (cs := #[.slice none 0 0, .string (⟨#[]⟩ : ByteArray), .int .i64 0, .slice none 0 0]) ?_ 0 _ rfl; (with_reducible repeat (first | refine blk_drewN ?_ _ | refine blk_drew ?_ | refine blk_alloc ?_ _)); exact BK267.out) hb); have n7_ := Aside0.mk (below_step (by repeat (first | (with_reducible first | exact HB.out | apply below_alloc | apply pw_below_drewN | apply below_drew1 | refine below_set ?_ GE267.out) | exact HB.out)) hb); clear HO265; clear HL266_0; clear HL266_3; clear HR266_0; clear HR266_3; clear BK267; clear HB; have HO265 := n0_; have HL266_0 := n1_; have HL266_3 := n2_; have HO270 := n3_; have HR266_0 := n4_; have HR266_3 := n5_; have BK267 := n6_; have HB := n7_; clear n0_ n1_ n2_ n3_ n4_ n5_ n6_ n7_; (try clear hb); (try clear hb2); (try clear hk); (try clear hi); (try clear ho0); obtain ⟨Ao19, co19, eo19⟩ := Kd.R_slice HO270.out; subst eo19; have hcz20_0 : w18.cell? ⟨gb267, 0, none⟩ = some (.slice A266_0 ((rd_T27 t263 (ji5)).f0).length c266_0) := (blk_cell BK267.out 0).trans rfl; have hcz20_1 : w18.cell? ⟨gb267, 1, none⟩ = some (.string ((rd_T27 t263 (ji5)).f1)) := (blk_cell BK267.out 1).trans rfl; have hcz20_2 : w18.cell? ⟨gb267, 2, none⟩ = some (.int .i64 ((rd_T27 t263 (ji5)).f2)) := (blk_cell BK267.out 2).trans rfl; have hcz20_3 : w18.cell? ⟨gb267, 3, none⟩ = some (.slice A266_3 ((rd_T27 t263 (ji5)).f3).length c266_3) := (blk_cell BK267.out 3).trans rfl; have hfz20_0 := blk_frozen BK267.out 0; have hfz20_1 := blk_frozen BK267.out 1; have hfz20_2 := blk_frozen BK267.out 2; have hfz20_3 := blk_frozen BK267.out 3) | (go_at_call 12; (with_reducible refine (attr_Rule.calls k _ _ ((rd_T27 t263 (ji5)).f0) t271 _ ?side1 ?side2 A10.out).mono ?_); (case side1 => repeat (first | exact (by repeat (first | (with_reducible exact HR266_0.out) | (with_reducible refine Kd.C_alloc ?_ _) | (with_reducible refine Kd.C_drewN ?_ _) | (with_reducible refine Kd.C_drew ?_) | exact HR266_0.out)) | (with_reducible refine Kd.C_alloc ?_ _) | (with_reducible refine Kd.C_drewN ?_ _) | (with_reducible refine Kd.C_drew ?_))); (case side2 => exact HC266_0.out); rintro e w21 ⟨rfl, hb⟩; have n0_ := Aside0.mk (Kd.N_below (by (with_reducible repeat (first | apply Kd.N_alloc | apply Kd.N_drewN | apply Kd.N_drew)); exact HO265.out) hb); have n1_ := Aside0.mk (Kd.V_below (by (with_reducible repeat (first | apply Kd.V_alloc | apply Kd.V_drewN | apply Kd.V_drew)); exact HL266_0.out) hb); have n2_ := Aside0.mk (Kd.V_below (by (with_reducible repeat (first | apply Kd.V_alloc | apply Kd.V_drewN | apply Kd.V_drew)); exact HL266_3.out) hb); have n3_ := Aside0.mk (Kd.R_below (by (with_reducible repeat (first | apply Kd.R_alloc | apply Kd.R_drewN | apply Kd.R_drew)); exact HO270.out) hb); have n4_ := Aside0.mk (Kd.C_below (by repeat (first | (with_reducible exact HR266_0.out) | (with_reducible refine Kd.C_alloc ?_ _) | (with_reducible refine Kd.C_drewN ?_ _) | (with_reducible refine Kd.C_drew ?_) | exact HR266_0.out)) hb); have n5_ := Aside0.mk (Kd.C_below (by repeat (first | (with_reducible exact HR266_3.out) | (with_reducible refine Kd.C_alloc ?_ _) | (with_reducible refine Kd.C_drewN ?_ _) | (with_reducible refine Kd.C_drew ?_) | exact HR266_3.out)) hb); have n6_ := Aside0.mk (blk_below (g := gb267) (o := .cells #[.slice A266_0 ((rd_T27 t263 (ji5)).f0).length c266_0, .string ((rd_T27 t263 (ji5)).f1), .int .i64 ((rd_T27 t263 (ji5)).f2), .slice A266_3 ((rd_T27 t263 (ji5)).f3).length c266_3] 27 (0, 0)) (by (with_reducible repeat (first | refine blk_drewN ?_ _ | refine blk_drew ?_ | refine blk_alloc ?_ _)); exact BK267.out) hb); have n7_ := Aside0.mk (below_step (by repeat (first | (with_reducible first | exact HB.out | apply below_alloc | apply pw_below_drewN | apply below_drew1 | refine below_set ?_ GE267.out) | exact HB.out)) hb); clear HO265; clear HL266_0; clear HL266_3; clear HO270; clear HR266_0; clear HR266_3; clear BK267; clear HB; have HO265 := n0_; have HL266_0 := n1_; have HL266_3 := n2_; have HO270 := n3_; have HR266_0 := n4_; have HR266_3 := n5_; have BK267 := n6_; have HB := n7_; clear n0_ n1_ n2_ n3_ n4_ n5_ n6_ n7_; (try clear hb); (try clear hb2); (try clear hk); (try clear hi); have hcz22_0 : w21.cell? ⟨gb267, 0, none⟩ = some (.slice A266_0 ((rd_T27 t263 (ji5)).f0).length c266_0) := (blk_cell BK267.out 0).trans rfl; have hcz22_1 : w21.cell? ⟨gb267, 1, none⟩ = some (.string ((rd_T27 t263 (ji5)).f1)) := (blk_cell BK267.out 1).trans rfl; have hcz22_2 : w21.cell? ⟨gb267, 2, none⟩ = some (.int .i64 ((rd_T27 t263 (ji5)).f2)) := (blk_cell BK267.out 2).trans rfl; have hcz22_3 : w21.cell? ⟨gb267, 3, none⟩ = some (.slice A266_3 ((rd_T27 t263 (ji5)).f3).length c266_3) := (blk_cell BK267.out 3).trans rfl; have hfz22_0 := blk_frozen BK267.out 0; have hfz22_1 := blk_frozen BK267.out 1; have hfz22_2 := blk_frozen BK267.out 2; have hfz22_3 := blk_frozen BK267.out 3) | (go_at_call 12; (with_reducible refine (attr_Rule.calls k _ _ ((rd_T27 t263 (ji5)).f0) t272 _ ?side1 ?side2 A12.out).mono ?_); (case side1 => repeat (first | exact (by repeat (first | (with_reducible exact HR266_0.out) | (with_reducible refine Kd.C_alloc ?_ _) | (with_reducible refine Kd.C_drewN ?_ _) | (with_reducible refine Kd.C_drew ?_) | exact HR266_0.out)) | (with_reducible refine Kd.C_alloc ?_ _) | (with_reducible refine Kd.C_drewN ?_ _) | (with_reducible refine Kd.C_drew ?_))); (case side2 => exact HC266_0.out); rintro e w23 ⟨rfl, hb⟩; have n0_ := Aside0.mk (Kd.N_below (by (with_reducible repeat (first | apply Kd.N_alloc | apply Kd.N_drewN | apply Kd.N_drew)); exact HO265.out) hb); have n1_ := Aside0.mk (Kd.V_below (by (with_reducible repeat (first | apply Kd.V_alloc | apply Kd.V_drewN | apply Kd.V_drew)); exact HL266_0.out) hb); have n2_ := Aside0.mk (Kd.V_below (by (with_reducible repeat (first | apply Kd.V_alloc | apply Kd.V_drewN | apply Kd.V_drew)); exact HL266_3.out) hb); have n3_ := Aside0.mk (Kd.R_below (by (with_reducible repeat (first | apply Kd.R_alloc | apply Kd.R_drewN | apply Kd.R_drew)); exact HO270.out) hb); have n4_ := Aside0.mk (Kd.C_below (by repeat (first | (with_reducible exact HR266_0.out) | (with_reducible refine Kd.C_alloc ?_ _) | (with_reducible refine Kd.C_drewN ?_ _) | (with_reducible refine Kd.C_drew ?_) | exact HR266_0.out)) hb); have n5_ := Aside0.mk (Kd.C_below (by repeat (first | (with_reducible exact HR266_3.out) | (with_reducible refine Kd.C_alloc ?_ _) | (with_reducible refine Kd.C_drewN ?_ _) | (with_reducible refine Kd.C_drew ?_) | exact HR266_3.out)) hb); have n6_ := Aside0.mk (blk_below (g := gb267) (o := .cells #[.slice A266_0 ((rd_T27 t263 (ji5)).f0).length c266_0, .string ((rd_T27 t263 (ji5)).f1), .int .i64 ((rd_T27 t263 (ji5)).f2), .slice A266_3 ((rd_T27 t263 (ji5)).f3).length c266_3] 27 (0, 0)) (by (with_reducible repeat (first | refine blk_drewN ?_ _ | refine blk_drew ?_ | refine blk_alloc ?_ _)); exact BK267.out) hb); have n7_ := Aside0.mk (below_step (by repeat (first | (with_reducible first | exact HB.out | apply below_alloc | apply pw_below_drewN | apply below_drew1 | refine below_set ?_ GE267.out) | exact HB.out)) hb); clear HO265; clear HL266_0; clear HL266_3; clear HO270; clear HR266_0; clear HR266_3; clear BK267; clear HB; have HO265 := n0_; have HL266_0 := n1_; have HL266_3 := n2_; have HO270 := n3_; have HR266_0 := n4_; have HR266_3 := n5_; have BK267 := n6_; have HB := n7_; clear n0_ n1_ n2_ n3_ n4_ n5_ n6_ n7_; (try clear hb); (try clear hb2); (try clear hk); (try clear hi))); try go_wp2_with (first | (go_at_call 7; (with_reducible refine (api_Attrs.calls  t263 _ A2.out).mono ?_); rintro e w14 ⟨v264, rfl, ho0, hb⟩; have n0_ := Aside0.mk (Kd.N_lower (Kd.N_mono (ok' := fun k_ => True) ho0 (fun k_ hk_ => trivial)) (below_size (by repeat (first | (with_reducible first | exact HB.out | apply below_alloc | apply pw_below_drewN | apply below_drew1) | exact HB.out)))); have n1_ := Aside0.mk (below_step (by repeat (first | (with_reducible first | exact HB.out | apply below_alloc | apply pw_below_drewN | apply below_drew1) | exact HB.out)) hb); clear HB; have HO265 := n0_; have HB := n1_; clear n0_ n1_; (try clear hb); (try clear hb2); (try clear hk); (try clear hi); (try clear ho0); obtain ⟨Ao15, co15, eo15⟩ := Kd.N_slice HO265.out; subst eo15; have p266 : 0 ≤ ((ji5) : Int) := of_decide_eq_true (by first | (with_reducible assumption) | assumption); have q266 : (ji5) < (t263.length : Int) := of_decide_eq_true (by first | (with_reducible assumption) | assumption); obtain ⟨ad266, A266_0, c266_0, A266_3, c266_3, e266, hx266_0, hx266_1, hx266_2, hx266_3, hl266_0, hi266_0, hl266_3, hi266_3⟩ := at_T27 (Kd.N_reads' HO265.out).2.2 (ji5) p266 q266; cases e266; obtain ⟨ce266, hce266, hMe266, hcc266⟩ := Kd.N_get HO265.out z27 (ji5) p266 (by first | exact q266 | exact of_decide_eq_true (by first | (with_reducible assumption) | assumption) | (have e_ := (Kd.N_reads' HO265.out).1; omega)); obtain ⟨ua266_0, uc266_0, ua266_3, uc266_3, rfl, ul266_0, ge266_0, ul266_3, ge266_3⟩ := k27_openF hMe266; have hv266_0 := hcc266 0 _ rfl; rw [Nat.add_zero] at hv266_0; replace hv266_0 := Option.some.inj (hv266_0.symm.trans hx266_0); injection hv266_0 with hva_ hvn_ hvc_; rw [hva_] at ge266_0; rw [hvc_] at ul266_0; have HL266_0 := Aside0.mk (show Kd.V (Kd.int .i64) 3 _ w.heap.size _ _ ((rd_T27 t263 (ji5)).f0) from Kd.V_mk ul266_0 ge266_0); clear hva_ hvn_ hvc_ ge266_0 ul266_0; have hv266_3 := hcc266 3 _ rfl; rw [add_field _ _ 3 (by omega)] at hv266_3; replace hv266_3 := Option.some.inj (hv266_3.symm.trans hx266_3); injection hv266_3 with hva_ hvn_ hvc_; rw [hva_] at ge266_3; rw [hvc_] at ul266_3; have HL266_3 := Aside0.mk (show Kd.V (Kd.int .i64) 3 _ w.heap.size _ _ ((rd_T27 t263 (ji5)).f3) from Kd.V_mk ul266_3 ge266_3); clear hva_ hvn_ hvc_ ge266_3 ul266_3; clear hcc266 hce266; have HR266_0 := Aside0.mk hi266_0; have HC266_0 := Aside0.mk hl266_0; clear hi266_0 hl266_0; have HR266_3 := Aside0.mk hi266_3; have HC266_3 := Aside0.mk hl266_3; clear hi266_3 hl266_3; replace p266 := eq_true p266; replace q266 := eq_true q266) | ((with_reducible refine gate_dst (N := 4) rfl ?_); refine box_event ?hg (N := 4) ?hd (cs := #[.slice none 0 0, .string (⟨#[]⟩ : ByteArray), .int .i64 0, .slice none 0 0]) (t := 27) ?hr ?_; (case hd => rfl); (case hg => rfl); (case hr => first | (go_simp; done) | (go_simp; rfl)); intro gb267 hg w16 hbox hb; have n0_ := Aside0.mk (Kd.N_below (Kd.N_elderB (by (with_reducible repeat (first | apply Kd.N_alloc | apply Kd.N_drewN | apply Kd.N_drew)); exact HO265.out) gb267 (Nat.le_of_eq hg.symm)) hb); have n1_ := Aside0.mk (Kd.V_below (Kd.V_elderB (by (with_reducible repeat (first | apply Kd.V_alloc | apply Kd.V_drewN | apply Kd.V_drew)); exact HL266_0.out) gb267 (Nat.le_of_eq hg.symm)) hb); have n2_ := Aside0.mk (Kd.V_below (Kd.V_elderB (by (with_reducible repeat (first | apply Kd.V_alloc | apply Kd.V_drewN | apply Kd.V_drew)); exact HL266_3.out) gb267 (Nat.le_of_eq hg.symm)) hb); have n3_ := Aside0.mk (Kd.C_below (by repeat (first | (with_reducible exact HR266_0.out) | (with_reducible refine Kd.C_alloc ?_ _) | (with_reducible refine Kd.C_drewN ?_ _) | (with_reducible refine Kd.C_drew ?_) | exact HR266_0.out)) hb); have n4_ := Aside0.mk (Kd.C_below (by repeat (first | (with_reducible exact HR266_3.out) | (with_reducible refine Kd.C_alloc ?_ _) | (with_reducible refine Kd.C_drewN ?_ _) | (with_reducible refine Kd.C_drew ?_) | exact HR266_3.out)) hb); have n5_ := Aside0.mk (below_step (by repeat (first | (with_reducible first | exact HB.out | apply below_alloc | apply pw_below_drewN | apply below_drew1) | exact HB.out)) hb); have n6_ := Aside0.mk (hbox); have n7_ := Aside0.mk ((by rw [hg]; exact (below_size (by repeat (first | (with_reducible first | exact HB.out | apply below_alloc | apply pw_below_drewN | apply below_drew1) | exact HB.out))) : w.heap.size ≤ gb267)); have n8_ := Aside0.mk ((by rw [hg]; exact (below_size (by repeat (first | (with_reducible first | exact HB.out | apply below_alloc | apply pw_below_drewN | apply below_drew1) | exact HB.out))) : w.heap.size ≤ gb267)); clear HO265; clear HL266_0; clear HL266_3; clear HR266_0; clear HR266_3; clear HB; have HO265 := n0_; have HL266_0 := n1_; have HL266_3 := n2_; have HR266_0 := n3_; have HR266_3 := n4_; have HB := n5_; have BK267 := n6_; have GW267 := n7_; have GE267 := n8_; clear n0_ n1_ n2_ n3_ n4_ n5_ n6_ n7_ n8_; clear hb hbox hg; have hcz17_0 : w16.cell? ⟨gb267, 0, none⟩ = some (.slice none 0 0) := (blk_cell BK267.out 0).trans rfl; have hcz17_1 : w16.cell? ⟨gb267, 1, none⟩ = some (.string (⟨#[]⟩ : ByteArray)) := (blk_cell BK267.out 1).trans rfl; have hcz17_2 : w16.cell? ⟨gb267, 2, none⟩ = some (.int .i64 0) := (blk_cell BK267.out 2).trans rfl; have hcz17_3 : w16.cell? ⟨gb267, 3, none⟩ = some (.slice none 0 0) := (blk_cell BK267.out 3).trans rfl; have hfz17_0 := blk_frozen BK267.out 0; have hfz17_1 := blk_frozen BK267.out 1; have hfz17_2 := blk_frozen BK267.out 2; have hfz17_3 := blk_frozen BK267.out 3) | (go_at_call 13; (with_reducible refine (attr_Kinds.calls k _ _ ((rd_T27 t263 (ji5)).f0) t268 _ ?side1 ?side2 A8.out).mono ?_); (case side1 => repeat (first | exact ((Kd.V_reads' (by (with_reducible repeat (first | apply Kd.V_alloc | apply Kd.V_drewN | apply Kd.V_drew)); exact (Kd.V_mono (Kd.V_far (p := ⟨gb267, 3, none⟩) (Kd.V_far (p := ⟨gb267, 2, none⟩) (Kd.V_far (p := ⟨gb267, 1, none⟩) (Kd.V_far (p := ⟨gb267, 0, none⟩) (Kd.V_mono HL266_0.out (fun k_ hk => (⟨hk, hk.2⟩ : _ ∧ k_ ≠ gb267))) (fun _ hk => hk.2) (.slice A266_0 ((rd_T27 t263 (ji5)).f0).length c266_0)) (fun _ hk => hk.2) (.string ((rd_T27 t263 (ji5)).f1))) (fun _ hk => hk.2) (.int .i64 ((rd_T27 t263 (ji5)).f2))) (fun _ hk => hk.2) (.slice A266_3 ((rd_T27 t263 (ji5)).f3).length c266_3)) (fun _ h_ => h_.1)))).2.2) | (with_reducible refine Kd.C_alloc ?_ _) | (with_reducible refine Kd.C_drewN ?_ _) | (with_reducible refine Kd.C_drew ?_))); (case side2 => exact HC266_0.out); rintro e w18 ⟨v269, rfl, ho0, hb⟩; have n0_ := Aside0.mk (Kd.N_elder' (by (with_reducible repeat (first | apply Kd.N_alloc | apply Kd.N_drewN | apply Kd.N_drew)); exact (Kd.N_mono (Kd.N_far (p := ⟨gb267, 3, none⟩) (Kd.N_far (p := ⟨gb267, 2, none⟩) (Kd.N_far (p := ⟨gb267, 1, none⟩) (Kd.N_far (p := ⟨gb267, 0, none⟩) (Kd.N_mono HO265.out (fun k_ hk => (⟨hk, hk.2⟩ : _ ∧ k_ ≠ gb267))) (fun _ hk => hk.2) (.slice A266_0 ((rd_T27 t263 (ji5)).f0).length c266_0)) (fun _ hk => hk.2) (.string ((rd_T27 t263 (ji5)).f1))) (fun _ hk => hk.2) (.int .i64 ((rd_T27 t263 (ji5)).f2))) (fun _ hk => hk.2) (.slice A266_3 ((rd_T27 t263 (ji5)).f3).length c266_3)) (fun _ h_ => h_.1))) (Kd.R_base ho0) hb); have n1_ := Aside0.mk (Kd.V_elder' (by (with_reducible repeat (first | apply Kd.V_alloc | apply Kd.V_drewN | apply Kd.V_drew)); exact (Kd.V_mono (Kd.V_far (p := ⟨gb267, 3, none⟩) (Kd.V_far (p := ⟨gb267, 2, none⟩) (Kd.V_far (p := ⟨gb267, 1, none⟩) (Kd.V_far (p := ⟨gb267, 0, none⟩) (Kd.V_mono HL266_0.out (fun k_ hk => (⟨hk, hk.2⟩ : _ ∧ k_ ≠ gb267))) (fun _ hk => hk.2) (.slice A266_0 ((rd_T27 t263 (ji5)).f0).length c266_0)) (fun _ hk => hk.2) (.string ((rd_T27 t263 (ji5)).f1))) (fun _ hk => hk.2) (.int .i64 ((rd_T27 t263 (ji5)).f2))) (fun _ hk => hk.2) (.slice A266_3 ((rd_T27 t263 (ji5)).f3).length c266_3)) (fun _ h_ => h_.1))) (Kd.R_base ho0) hb); have n2_ := Aside0.mk (Kd.V_elder' (by (with_reducible repeat (first | apply Kd.V_alloc | apply Kd.V_drewN | apply Kd.V_drew)); exact (Kd.V_mono (Kd.V_far (p := ⟨gb267, 3, none⟩) (Kd.V_far (p := ⟨gb267, 2, none⟩) (Kd.V_far (p := ⟨gb267, 1, none⟩) (Kd.V_far (p := ⟨gb267, 0, none⟩) (Kd.V_mono HL266_3.out (fun k_ hk => (⟨hk, hk.2⟩ : _ ∧ k_ ≠ gb267))) (fun _ hk => hk.2) (.slice A266_0 ((rd_T27 t263 (ji5)).f0).length c266_0)) (fun _ hk => hk.2) (.string ((rd_T27 t263 (ji5)).f1))) (fun _ hk => hk.2) (.int .i64 ((rd_T27 t263 (ji5)).f2))) (fun _ hk => hk.2) (.slice A266_3 ((rd_T27 t263 (ji5)).f3).length c266_3)) (fun _ h_ => h_.1))) (Kd.R_base ho0) hb); have n3_ := Aside0.mk (Kd.R_lower ho0 (below_size (by repeat (first | (with_reducible first | exact HB.out | apply below_alloc | apply pw_below_drewN | apply below_drew1 | refine below_set ?_ GE267.out) | exact HB.out)))); have n4_ := Aside0.mk (Kd.C_below ((Kd.V_reads' (by (with_reducible repeat (first | apply Kd.V_alloc | apply Kd.V_drewN | apply Kd.V_drew)); exact (Kd.V_mono (Kd.V_far (p := ⟨gb267, 3, none⟩) (Kd.V_far (p := ⟨gb267, 2, none⟩) (Kd.V_far (p := ⟨gb267, 1, none⟩) (Kd.V_far (p := ⟨gb267, 0, none⟩) (Kd.V_mono HL266_0.out (fun k_ hk => (⟨hk, hk.2⟩ : _ ∧ k_ ≠ gb267))) (fun _ hk => hk.2) (.slice A266_0 ((rd_T27 t263 (ji5)).f0).length c266_0)) (fun _ hk => hk.2) (.string ((rd_T27 t263 (ji5)).f1))) (fun _ hk => hk.2) (.int .i64 ((rd_T27 t263 (ji5)).f2))) (fun _ hk => hk.2) (.slice A266_3 ((rd_T27 t263 (ji5)).f3).length c266_3)) (fun _ h_ => h_.1)))).2.2) hb); have n5_ := Aside0.mk (Kd.C_below ((Kd.V_reads' (by (with_reducible repeat (first | apply Kd.V_alloc | apply Kd.V_drewN | apply Kd.V_drew)); exact (Kd.V_mono (Kd.V_far (p := ⟨gb267, 3, none⟩) (Kd.V_far (p := ⟨gb267, 2, none⟩) (Kd.V_far (p := ⟨gb267, 1, none⟩) (Kd.V_far (p := ⟨gb267, 0, none⟩) (Kd.V_mono HL266_3.out (fun k_ hk => (⟨hk, hk.2⟩ : _ ∧ k_ ≠ gb267))) (fun _ hk => hk.2) (.slice A266_0 ((rd_T27 t263 (ji5)).f0).length c266_0)) (fun _ hk => hk.2) (.string ((rd_T27 t263 (ji5)).f1))) (fun _ hk => hk.2) (.int .i64 ((rd_T27 t263 (ji5)).f2))) (fun _ hk => hk.2) (.slice A266_3 ((rd_T27 t263 (ji5)).f3).length c266_3)) (fun _ h_ => h_.1)))).2.2) hb); have n6_ := Aside0.mk (blk_below (g := gb267) (o := .cells #[.slice A266_0 ((rd_T27 t263 (ji5)).f0).length c266_0, .string ((rd_T27 t263 (ji5)).f1), .int .i64 ((rd_T27 t263 (ji5)).f2), .slice A266_3 ((rd_T27 t263 (ji5)).f3).length c266_3] 27 (0, 0)) (by (with_reducible repeat (first | refine blk_drewN ?_ _ | refine blk_drew ?_ | refine blk_alloc ?_ _)); refine blk_put (cs := #[.slice A266_0 ((rd_T27 t263 (ji5)).f0).length c266_0, .string ((rd_T27 t263 (ji5)).f1), .int .i64 ((rd_T27 t263 (ji5)).f2), .slice none 0 0]) ?_ 3 _ rfl; (with_reducible repeat (first | refine blk_drewN ?_ _ | refine blk_drew ?_ | refine blk_alloc ?_ _)); refine blk_put (cs := #[.slice A266_0 ((rd_T27 t263 (ji5)).f0).length c266_0, .string ((rd_T27 t263 (ji5)).f1), .int .i64 0, .slice none 0 0]) ?_ 2 _ rfl; (with_reducible repeat (first | refine blk_drewN ?_ _ | refine blk_drew ?_ | refine blk_alloc ?_ _)); refine blk_put (cs := #[.slice A266_0 ((rd_T27 t263 (ji5)).f0).length c266_0, .string (⟨#[]⟩ : ByteArray), .int .i64 0, .slice none 0 0]) ?_ 1 _ rfl; (with_reducible repeat (first | refine blk_drewN ?_ _ | refine blk_drew ?_ | refine blk_alloc ?_ _)); refine blk_put (cs := #[.slice none 0 0, .string (⟨#[]⟩ : ByteArray), .int .i64 0, .slice none 0 0]) ?_ 0 _ rfl; (with_reducible repeat (first | refine blk_drewN ?_ _ | refine blk_drew ?_ | refine blk_alloc ?_ _)); exact BK267.out) hb); have n7_ := Aside0.mk (below_step (by repeat (first | (with_reducible first | exact HB.out | apply below_alloc | apply pw_below_drewN | apply below_drew1 | refine below_set ?_ GE267.out) | exact HB.out)) hb); clear HO265; clear HL266_0; clear HL266_3; clear HR266_0; clear HR266_3; clear BK267; clear HB; have HO265 := n0_; have HL266_0 := n1_; have HL266_3 := n2_; have HO270 := n3_; have HR266_0 := n4_; have HR266_3 := n5_; have BK267 := n6_; have HB := n7_; clear n0_ n1_ n2_ n3_ n4_ n5_ n6_ n7_; (try clear hb); (try clear hb2); (try clear hk); (try clear hi); (try clear ho0); obtain ⟨Ao19, co19, eo19⟩ := Kd.R_slice HO270.out; subst eo19; have hcz20_0 : w18.cell? ⟨gb267, 0, none⟩ = some (.slice A266_0 ((rd_T27 t263 (ji5)).f0).length c266_0) := (blk_cell BK267.out 0).trans rfl; have hcz20_1 : w18.cell? ⟨gb267, 1, none⟩ = some (.string ((rd_T27 t263 (ji5)).f1)) := (blk_cell BK267.out 1).trans rfl; have hcz20_2 : w18.cell? ⟨gb267, 2, none⟩ = some (.int .i64 ((rd_T27 t263 (ji5)).f2)) := (blk_cell BK267.out 2).trans rfl; have hcz20_3 : w18.cell? ⟨gb267, 3, none⟩ = some (.slice A266_3 ((rd_T27 t263 (ji5)).f3).length c266_3) := (blk_cell BK267.out 3).trans rfl; have hfz20_0 := blk_frozen BK267.out 0; have hfz20_1 := blk_frozen BK267.out 1; have hfz20_2 := blk_frozen BK267.out 2; have hfz20_3 := blk_frozen BK267.out 3) | (go_at_call 12; (with_reducible refine (attr_Rule.calls k _ _ ((rd_T27 t263 (ji5)).f0) t271 _ ?side1 ?side2 A10.out).mono ?_); (case side1 => repeat (first | exact (by repeat (first | (with_reducible exact HR266_0.out) | (with_reducible refine Kd.C_alloc ?_ _) | (with_reducible refine Kd.C_drewN ?_ _) | (with_reducible refine Kd.C_drew ?_) | exact HR266_0.out)) | (with_reducible refine Kd.C_alloc ?_ _) | (with_reducible refine Kd.C_drewN ?_ _) | (with_reducible refine Kd.C_drew ?_))); (case side2 => exact HC266_0.out); rintro e w21 ⟨rfl, hb⟩; have n0_ := Aside0.mk (Kd.N_below (by (with_reducible repeat (first | apply Kd.N_alloc | apply Kd.N_drewN | apply Kd.N_drew)); exact HO265.out) hb); have n1_ := Aside0.mk (Kd.V_below (by (with_reducible repeat (first | apply Kd.V_alloc | apply Kd.V_drewN | apply Kd.V_drew)); exact HL266_0.out) hb); have n2_ := Aside0.mk (Kd.V_below (by (with_reducible repeat (first | apply Kd.V_alloc | apply Kd.V_drewN | apply Kd.V_drew)); exact HL266_3.out) hb); have n3_ := Aside0.mk (Kd.R_below (by (with_reducible repeat (first | apply Kd.R_alloc | apply Kd.R_drewN | apply Kd.R_drew)); exact HO270.out) hb); have n4_ := Aside0.mk (Kd.C_below (by repeat (first | (with_reducible exact HR266_0.out) | (with_reducible refine Kd.C_alloc ?_ _) | (with_reducible refine Kd.C_drewN ?_ _) | (with_reducible refine Kd.C_drew ?_) | exact HR266_0.out)) hb); have n5_ := Aside0.mk (Kd.C_below (by repeat (first | (with_reducible exact HR266_3.out) | (with_reducible refine Kd.C_alloc ?_ _) | (with_reducible refine Kd.C_drewN ?_ _) | (with_reducible refine Kd.C_drew ?_) | exact HR266_3.out)) hb); have n6_ := Aside0.mk (blk_below (g := gb267) (o := .cells #[.slice A266_0 ((rd_T27 t263 (ji5)).f0).length c266_0, .string ((rd_T27 t263 (ji5)).f1), .int .i64 ((rd_T27 t263 (ji5)).f2), .slice A266_3 ((rd_T27 t263 (ji5)).f3).length c266_3] 27 (0, 0)) (by (with_reducible repeat (first | refine blk_drewN ?_ _ | refine blk_drew ?_ | refine blk_alloc ?_ _)); exact BK267.out) hb); have n7_ := Aside0.mk (below_step (by repeat (first | (with_reducible first | exact HB.out | apply below_alloc | apply pw_below_drewN | apply below_drew1 | refine below_set ?_ GE267.out) | exact HB.out)) hb); clear HO265; clear HL266_0; clear HL266_3; clear HO270; clear HR266_0; clear HR266_3; clear BK267; clear HB; have HO265 := n0_; have HL266_0 := n1_; have HL266_3 := n2_; have HO270 := n3_; have HR266_0 := n4_; have HR266_3 := n5_; have BK267 := n6_; have HB := n7_; clear n0_ n1_ n2_ n3_ n4_ n5_ n6_ n7_; (try clear hb); (try clear hb2); (try clear hk); (try clear hi); have hcz22_0 : w21.cell? ⟨gb267, 0, none⟩ = some (.slice A266_0 ((rd_T27 t263 (ji5)).f0).length c266_0) := (blk_cell BK267.out 0).trans rfl; have hcz22_1 : w21.cell? ⟨gb267, 1, none⟩ = some (.string ((rd_T27 t263 (ji5)).f1)) := (blk_cell BK267.out 1).trans rfl; have hcz22_2 : w21.cell? ⟨gb267, 2, none⟩ = some (.int .i64 ((rd_T27 t263 (ji5)).f2)) := (blk_cell BK267.out 2).trans rfl; have hcz22_3 : w21.cell? ⟨gb267, 3, none⟩ = some (.slice A266_3 ((rd_T27 t263 (ji5)).f3).length c266_3) := (blk_cell BK267.out 3).trans rfl; have hfz22_0 := blk_frozen BK267.out 0; have hfz22_1 := blk_frozen BK267.out 1; have hfz22_2 := blk_frozen BK267.out 2; have hfz22_3 := blk_frozen BK267.out 3) | (go_at_call 12; (with_reducible refine (attr_Rule.calls k _ _ ((rd_T27 t263 (ji5)).f0) t272 _ ?side1 ?side2 A12.out).mono ?_); (case side1 => repeat (first | exact (by repeat (first | (with_reducible exact HR266_0.out) | (with_reducible refine Kd.C_alloc ?_ _) | (with_reducible refine Kd.C_drewN ?_ _) | (with_reducible refine Kd.C_drew ?_) | exact HR266_0.out)) | (with_reducible refine Kd.C_alloc ?_ _) | (with_reducible refine Kd.C_drewN ?_ _) | (with_reducible refine Kd.C_drew ?_))); (case side2 => exact HC266_0.out); rintro e w23 ⟨rfl, hb⟩; have n0_ := Aside0.mk (Kd.N_below (by (with_reducible repeat (first | apply Kd.N_alloc | apply Kd.N_drewN | apply Kd.N_drew)); exact HO265.out) hb); have n1_ := Aside0.mk (Kd.V_below (by (with_reducible repeat (first | apply Kd.V_alloc | apply Kd.V_drewN | apply Kd.V_drew)); exact HL266_0.out) hb); have n2_ := Aside0.mk (Kd.V_below (by (with_reducible repeat (first | apply Kd.V_alloc | apply Kd.V_drewN | apply Kd.V_drew)); exact HL266_3.out) hb); have n3_ := Aside0.mk (Kd.R_below (by (with_reducible repeat (first | apply Kd.R_alloc | apply Kd.R_drewN | apply Kd.R_drew)); exact HO270.out) hb); have n4_ := Aside0.mk (Kd.C_below (by repeat (first | (with_reducible exact HR266_0.out) | (with_reducible refine Kd.C_alloc ?_ _) | (with_reducible refine Kd.C_drewN ?_ _) | (with_reducible refine Kd.C_drew ?_) | exact HR266_0.out)) hb); have n5_ := Aside0.mk (Kd.C_below (by repeat (first | (with_reducible exact HR266_3.out) | (with_reducible refine Kd.C_alloc ?_ _) | (with_reducible refine Kd.C_drewN ?_ _) | (with_reducible refine Kd.C_drew ?_) | exact HR266_3.out)) hb); have n6_ := Aside0.mk (blk_below (g := gb267) (o := .cells #[.slice A266_0 ((rd_T27 t263 (ji5)).f0).length c266_0, .string ((rd_T27 t263 (ji5)).f1), .int .i64 ((rd_T27 t263 (ji5)).f2), .slice A266_3 ((rd_T27 t263 (ji5)).f3).length c266_3] 27 (0, 0)) (by (with_reducible repeat (first | refine blk_drewN ?_ _ | refine blk_drew ?_ | refine blk_alloc ?_ _)); exact BK267.out) hb); have n7_ := Aside0.mk (below_step (by repeat (first | (with_reducible first | exact HB.out | apply below_alloc | apply pw_below_drewN | apply below_drew1 | refine below_set ?_ GE267.out) | exact HB.out)) hb); clear HO265; clear HL266_0; clear HL266_3; clear HO270; clear HR266_0; clear HR266_3; clear BK267; clear HB; have HO265 := n0_; have HL266_0 := n1_; have HL266_3 := n2_; have HO270 := n3_; have HR266_0 := n4_; have HR266_3 := n5_; have BK267 := n6_; have HB := n7_; clear n0_ n1_ n2_ n3_ n4_ n5_ n6_ n7_; (try clear hb); (try clear hb2); (try clear hk); (try clear hi))))
                go_loopg [6] k (fun kq v6 w' => ∃ (x6_1 : Int), v6 = .int .i64 x6_1 ∧ Aside0 (sobriquetlaw22_AttrKinds.l0 kq t268 x6_1 ((rd_T27 t263 (ji5)).f0) ((rd_T27 t263 (ji5)).f1) ((rd_T27 t263 (ji5)).f2) ((rd_T27 t263 (ji5)).f3) = some r) ∧ Aside0 (kq ≤ k) ∧ Aside0 (Kd.R (Kd.int .i64) 3 w' w.heap.size (fun _ => True) (.slice Ao19 t268.length co19) t268) ∧ Aside0 (w'.heap[gb267]? = some (.cells #[(.slice A266_0 ((rd_T27 t263 (ji5)).f0).length c266_0), .string ((rd_T27 t263 (ji5)).f1), .int .i64 ((rd_T27 t263 (ji5)).f2), (.slice A266_3 ((rd_T27 t263 (ji5)).f3).length c266_3)] 27 (0, 0))) ∧ Aside0 (Kd.C (Kd.int .i64) w' A266_0 ((rd_T27 t263 (ji5)).f0).length ((rd_T27 t263 (ji5)).f0)) ∧ Aside0 (Kd.C (Kd.int .i64) w' A266_3 ((rd_T27 t263 (ji5)).f3).length ((rd_T27 t263 (ji5)).f3)) ∧ Aside0 (Below w.heap.size w w'))
                case atStart => exact ⟨(0), (by first | rfl | (simp; done) | (simp [*]; done)), H', ⟨Nat.le_refl _⟩, ⟨by (with_reducible repeat (first | apply Kd.R_alloc | apply Kd.R_drewN | apply Kd.R_drew)); exact HO270.out⟩, ⟨by (with_reducible repeat (first | refine blk_drewN ?_ _ | refine blk_drew ?_ | refine blk_alloc ?_ _)); exact BK267.out⟩, ⟨by repeat (first | (with_reducible exact HR266_0.out) | (with_reducible refine Kd.C_alloc ?_ _) | (with_reducible refine Kd.C_drewN ?_ _) | (with_reducible refine Kd.C_drew ?_) | exact HR266_0.out)⟩, ⟨by repeat (first | (with_reducible exact HR266_3.out) | (with_reducible refine Kd.C_alloc ?_ _) | (with_reducible refine Kd.C_drewN ?_ _) | (with_reducible refine Kd.C_drew ?_) | exact HR266_3.out)⟩, ⟨by repeat (first | (with_reducible first | exact HB.out | apply below_alloc | apply pw_below_drewN | apply below_drew1 | refine below_set ?_ GE267.out) | exact HB.out)⟩⟩
                case round =>
                  clear H'
                  try clear c1
                  try clear c2
                  try clear p2
                  try clear q2
                  try clear hx2
                  try clear c3
                  try clear c3b0
                  try clear c3b1
                  try clear c3b2
                  try clear c4
                  try clear c4b0
                  try clear c4b1
                  try clear c5
                  try clear c6
                  try clear c6b0
                  try clear p6
                  try clear c7
                  try clear c7b0
                  try clear c9
                  try clear c9b0
                  try clear c9b1
                  try clear c9b2
                  try clear c11
                  try clear c11b0
                  try clear c13
                  try clear c13b0
                  try clear hcz17_0
                  try clear hcz17_1
                  try clear hcz17_2
                  try clear hcz17_3
                  try clear hcz20_0
                  try clear hcz20_1
                  try clear hcz20_2
                  try clear hcz20_3
                  try clear hcz22_0
                  try clear hcz22_1
                  try clear hcz22_2
                  try clear hcz22_3
                  try clear hfz17_0
                  try clear hfz17_1
                  try clear hfz17_2
                  try clear hfz17_3
                  try clear hfz20_0
                  try clear hfz20_1
                  try clear hfz20_2
                  try clear hfz20_3
                  try clear hfz22_0
                  try clear hfz22_1
                  try clear hfz22_2
                  try clear hfz22_3
                  try clear hx266_0
                  try clear hx266_1
                  try clear hx266_2
                  try clear hx266_3
                  try clear p266
                  try clear q266
                  obtain ⟨x6_1, rfl, HA, HK1, HO_5, BK267, HR266_0, HR266_3, HB⟩ := hrel
                  cases gk with
                  | zero => exact absurd HA.out (by simp [sobriquetlaw22_AttrKinds.l0])
                  | succ k1 =>
                    have H := HA.out
                    clear HA
                    simp only [sobriquetlaw22_AttrKinds.l0] at H
                    by_cases c24 : x6_1 < (t268.length : Int)
                    · rw [if_pos c24] at H
                      have c24b0 : decide (x6_1 < (t268.length : Int)) = true := decide_eq_true c24
                      clear c24
                      by_cases c25 : 0 ≤ x6_1
                      · rw [if_pos c25] at H
                        have c25b0 : decide (0 ≤ x6_1) = true := decide_eq_true c25
                        clear c25
                        replace H := Option.bind_eq_some_iff.mp H
                        obtain ⟨t274, A260, H⟩ := H
                        replace H : (if t274 = true then (sobriquetlaw22_AttrKinds.l1 k1 t268 x6_1 0 ((rd_T27 t263 (ji5)).f0) ((rd_T27 t263 (ji5)).f1) ((rd_T27 t263 (ji5)).f2) ((rd_T27 t263 (ji5)).f3)) else (some false)) = some r := H
                        have A26 := Aside0.mk A260
                        clear A260
                        by_cases c27 : t274 = true
                        · subst c27
                          have H1 : (sobriquetlaw22_AttrKinds.l1 k1 t268 x6_1 0 ((rd_T27 t263 (ji5)).f0) ((rd_T27 t263 (ji5)).f1) ((rd_T27 t263 (ji5)).f2) ((rd_T27 t263 (ji5)).f3)) = some r := by rw [if_pos rfl] at H; exact H
                          clear H
                          have H := H1
                          clear H1
                          have H' := Aside0.mk H
                          clear H
                          have p273 : 0 ≤ (x6_1 : Int) := of_decide_eq_true (by first | (with_reducible assumption) | assumption)
                          have q273 : x6_1 < (t268.length : Int) := of_decide_eq_true (by first | (with_reducible assumption) | assumption)
                          obtain ⟨ad273, e273, hx273_0⟩ := Kd.at_int (Kd.R_reads' HO_5.out).2.2 x6_1 p273 q273
                          cases e273
                          replace p273 := eq_true p273
                          replace q273 := eq_true q273
                          go_wp2_with (first | (go_at_call 16; (with_reducible refine (str_Is.calls k1 (rd t268 x6_1) true _ A26.out).mono ?_); rintro e w28 ⟨rfl, hb⟩; have n0_ := Aside0.mk (Kd.R_below (by (with_reducible repeat (first | apply Kd.R_alloc | apply Kd.R_drewN | apply Kd.R_drew)); exact HO_5.out) hb); have n1_ := Aside0.mk (blk_below (g := gb267) (o := .cells #[.slice A266_0 ((rd_T27 t263 (ji5)).f0).length c266_0, .string ((rd_T27 t263 (ji5)).f1), .int .i64 ((rd_T27 t263 (ji5)).f2), .slice A266_3 ((rd_T27 t263 (ji5)).f3).length c266_3] 27 (0, 0)) (by (with_reducible repeat (first | refine blk_drewN ?_ _ | refine blk_drew ?_ | refine blk_alloc ?_ _)); exact BK267.out) hb); have n2_ := Aside0.mk (Kd.C_below (by repeat (first | (with_reducible exact HR266_0.out) | (with_reducible refine Kd.C_alloc ?_ _) | (with_reducible refine Kd.C_drewN ?_ _) | (with_reducible refine Kd.C_drew ?_) | exact HR266_0.out)) hb); have n3_ := Aside0.mk (Kd.C_below (by repeat (first | (with_reducible exact HR266_3.out) | (with_reducible refine Kd.C_alloc ?_ _) | (with_reducible refine Kd.C_drewN ?_ _) | (with_reducible refine Kd.C_drew ?_) | exact HR266_3.out)) hb); have n4_ := Aside0.mk (below_step (by repeat (first | (with_reducible first | exact HB.out | apply below_alloc | apply pw_below_drewN | apply below_drew1 | refine below_set ?_ GE267.out) | exact HB.out)) hb); clear HO_5; clear BK267; clear HR266_0; clear HR266_3; clear HB; have HO_5 := n0_; have BK267 := n1_; have HR266_0 := n2_; have HR266_3 := n3_; have HB := n4_; clear n0_ n1_ n2_ n3_ n4_; (try clear hb); (try clear hb2); (try clear hk); (try clear hi)))
                          repeat (go_quiet (first | (go_at_call 16; (with_reducible refine (str_Is.calls k1 (rd t268 x6_1) true _ A26.out).mono ?_); rintro e w28 ⟨rfl, hb⟩; have n0_ := Aside0.mk (Kd.R_below (by (with_reducible repeat (first | apply Kd.R_alloc | apply Kd.R_drewN | apply Kd.R_drew)); exact HO_5.out) hb); have n1_ := Aside0.mk (blk_below (g := gb267) (o := .cells #[.slice A266_0 ((rd_T27 t263 (ji5)).f0).length c266_0, .string ((rd_T27 t263 (ji5)).f1), .int .i64 ((rd_T27 t263 (ji5)).f2), .slice A266_3 ((rd_T27 t263 (ji5)).f3).length c266_3] 27 (0, 0)) (by (with_reducible repeat (first | refine blk_drewN ?_ _ | refine blk_drew ?_ | refine blk_alloc ?_ _)); exact BK267.out) hb); have n2_ := Aside0.mk (Kd.C_below (by repeat (first | (with_reducible exact HR266_0.out) | (with_reducible refine Kd.C_alloc ?_ _) | (with_reducible refine Kd.C_drewN ?_ _) | (with_reducible refine Kd.C_drew ?_) | exact HR266_0.out)) hb); have n3_ := Aside0.mk (Kd.C_below (by repeat (first | (with_reducible exact HR266_3.out) | (with_reducible refine Kd.C_alloc ?_ _) | (with_reducible refine Kd.C_drewN ?_ _) | (with_reducible refine Kd.C_drew ?_) | exact HR266_3.out)) hb); have n4_ := Aside0.mk (below_step (by repeat (first | (with_reducible first | exact HB.out | apply below_alloc | apply pw_below_drewN | apply below_drew1 | refine below_set ?_ GE267.out) | exact HB.out)) hb); clear HO_5; clear BK267; clear HR266_0; clear HR266_3; clear HB; have HO_5 := n0_; have BK267 := n1_; have HR266_0 := n2_; have HR266_3 := n3_; have HB := n4_; clear n0_ n1_ n2_ n3_ n4_; (try clear hb); (try clear hb2); (try clear hk); (try clear hi))); try go_wp2_with (first | (go_at_call 16; (with_reducible refine (str_Is.calls k1 (rd t268 x6_1) true _ A26.out).mono ?_); rintro e w28 ⟨rfl, hb⟩; have n0_ := Aside0.mk (Kd.R_below (by (with_reducible repeat (first | apply Kd.R_alloc | apply Kd.R_drewN | apply Kd.R_drew)); exact HO_5.out) hb); have n1_ := Aside0.mk (blk_below (g := gb267) (o := .cells #[.slice A266_0 ((rd_T27 t263 (ji5)).f0).length c266_0, .string ((rd_T27 t263 (ji5)).f1), .int .i64 ((rd_T27 t263 (ji5)).f2), .slice A266_3 ((rd_T27 t263 (ji5)).f3).length c266_3] 27 (0, 0)) (by (with_reducible repeat (first | refine blk_drewN ?_ _ | refine blk_drew ?_ | refine blk_alloc ?_ _)); exact BK267.out) hb); have n2_ := Aside0.mk (Kd.C_below (by repeat (first | (with_reducible exact HR266_0.out) | (with_reducible refine Kd.C_alloc ?_ _) | (with_reducible refine Kd.C_drewN ?_ _) | (with_reducible refine Kd.C_drew ?_) | exact HR266_0.out)) hb); have n3_ := Aside0.mk (Kd.C_below (by repeat (first | (with_reducible exact HR266_3.out) | (with_reducible refine Kd.C_alloc ?_ _) | (with_reducible refine Kd.C_drewN ?_ _) | (with_reducible refine Kd.C_drew ?_) | exact HR266_3.out)) hb); have n4_ := Aside0.mk (below_step (by repeat (first | (with_reducible first | exact HB.out | apply below_alloc | apply pw_below_drewN | apply below_drew1 | refine below_set ?_ GE267.out) | exact HB.out)) hb); clear HO_5; clear BK267; clear HR266_0; clear HR266_3; clear HB; have HO_5 := n0_; have BK267 := n1_; have HR266_0 := n2_; have HR266_3 := n3_; have HB := n4_; clear n0_ n1_ n2_ n3_ n4_; (try clear hb); (try clear hb2); (try clear hk); (try clear hi))))
                          go_loopg [7] k1 (fun kq v7 w' => ∃ (x7_2 : Int), v7 = .int .i64 x7_2 ∧ Aside0 (sobriquetlaw22_AttrKinds.l1 kq t268 x6_1 x7_2 ((rd_T27 t263 (ji5)).f0) ((rd_T27 t263 (ji5)).f1) ((rd_T27 t263 (ji5)).f2) ((rd_T27 t263 (ji5)).f3) = some r) ∧ Aside0 (kq ≤ k1) ∧ Aside0 (Kd.R (Kd.int .i64) 3 w' w.heap.size (fun _ => True) (.slice (some ad273) t268.length co19) t268) ∧ Aside0 (w'.heap[gb267]? = some (.cells #[(.slice A266_0 ((rd_T27 t263 (ji5)).f0).length c266_0), .string ((rd_T27 t263 (ji5)).f1), .int .i64 ((rd_T27 t263 (ji5)).f2), (.slice A266_3 ((rd_T27 t263 (ji5)).f3).length c266_3)] 27 (0, 0))) ∧ Aside0 (Kd.C (Kd.int .i64) w' A266_0 ((rd_T27 t263 (ji5)).f0).length ((rd_T27 t263 (ji5)).f0)) ∧ Aside0 (Kd.C (Kd.int .i64) w' A266_3 ((rd_T27 t263 (ji5)).f3).length ((rd_T27 t263 (ji5)).f3)) ∧ Aside0 (Below w.heap.size w w'))
                          case atStart => exact ⟨(0), (by first | rfl | (simp; done) | (simp [*]; done)), H', ⟨Nat.le_refl _⟩, ⟨by (with_reducible repeat (first | apply Kd.R_alloc | apply Kd.R_drewN | apply Kd.R_drew)); exact HO_5.out⟩, ⟨by (with_reducible repeat (first | refine blk_drewN ?_ _ | refine blk_drew ?_ | refine blk_alloc ?_ _)); exact BK267.out⟩, ⟨by repeat (first | (with_reducible exact HR266_0.out) | (with_reducible refine Kd.C_alloc ?_ _) | (with_reducible refine Kd.C_drewN ?_ _) | (with_reducible refine Kd.C_drew ?_) | exact HR266_0.out)⟩, ⟨by repeat (first | (with_reducible exact HR266_3.out) | (with_reducible refine Kd.C_alloc ?_ _) | (with_reducible refine Kd.C_drewN ?_ _) | (with_reducible refine Kd.C_drew ?_) | exact HR266_3.out)⟩, ⟨by repeat (first | (with_reducible first | exact HB.out | apply below_alloc | apply pw_below_drewN | apply below_drew1 | refine below_set ?_ GE267.out) | exact HB.out)⟩⟩
                          case round =>
                            clear H'
                            try clear c1
                            try clear c2
                            try clear p2
                            try clear q2
                            try clear hx2
                            try clear c3
                            try clear c3b0
                            try clear c3b1
                            try clear c3b2
                            try clear c4
                            try clear c4b0
                            try clear c4b1
                            try clear c5
                            try clear c6
                            try clear c6b0
                            try clear p6
                            try clear c7
                            try clear c7b0
                            try clear c9
                            try clear c9b0
                            try clear c9b1
                            try clear c9b2
                            try clear c11
                            try clear c11b0
                            try clear c13
                            try clear c13b0
                            try clear c24
                            try clear c24b0
                            try clear c25
                            try clear c25b0
                            try clear c26
                            try clear p26
                            try clear q26
                            try clear hx26
                            try clear c27
                            try clear p27
                            try clear q27
                            try clear hx27
                            try clear hcz17_0
                            try clear hcz17_1
                            try clear hcz17_2
                            try clear hcz17_3
                            try clear hcz20_0
                            try clear hcz20_1
                            try clear hcz20_2
                            try clear hcz20_3
                            try clear hcz22_0
                            try clear hcz22_1
                            try clear hcz22_2
                            try clear hcz22_3
                            try clear hfz17_0
                            try clear hfz17_1
                            try clear hfz17_2
                            try clear hfz17_3
                            try clear hfz20_0
                            try clear hfz20_1
                            try clear hfz20_2
                            try clear hfz20_3
                            try clear hfz22_0
                            try clear hfz22_1
                            try clear hfz22_2
                            try clear hfz22_3
                            try clear hx266_0
                            try clear hx266_1
                            try clear hx266_2
                            try clear hx266_3
                            try clear hx273_0
                            try clear p2
                            try clear p266
                            try clear p273
                            try clear p6
                            try clear q2
                            try clear q266
                            try clear q273
                            obtain ⟨x7_2, rfl, HA, HK2, HO_5, BK267, HR266_0, HR266_3, HB⟩ := hrel
                            cases gk with
                            | zero => exact absurd HA.out (by simp [sobriquetlaw22_AttrKinds.l1])
                            | succ k2 =>
                              have H := HA.out
                              clear HA
                              simp only [sobriquetlaw22_AttrKinds.l1] at H
                              by_cases c29 : x7_2 < x6_1
                              · rw [if_pos c29] at H
                                have c29b0 : decide (x7_2 < x6_1) = true := decide_eq_true c29
                                clear c29
                                by_cases c30 : 0 ≤ x7_2
                                · rw [if_pos c30] at H
                                  have c30b0 : decide (0 ≤ x7_2) = true := decide_eq_true c30
                                  clear c30
                                  by_cases c31 : x7_2 < (t268.length : Int)
                                  · rw [if_pos c31] at H
                                    have c31b0 : decide (x7_2 < (t268.length : Int)) = true := decide_eq_true c31
                                    clear c31
                                    by_cases c32 : 0 ≤ x6_1
                                    · rw [if_pos c32] at H
                                      have c32b0 : decide (0 ≤ x6_1) = true := decide_eq_true c32
                                      clear c32
                                      by_cases c33 : x6_1 < (t268.length : Int)
                                      · rw [if_pos c33] at H
                                        have c33b0 : decide (x6_1 < (t268.length : Int)) = true := decide_eq_true c33
                                        clear c33
                                        by_cases c34 : (rd t268 x7_2) = (rd t268 x6_1)
                                        · rw [if_pos c34] at H
                                          have c34b0 : ((rd t268 x7_2) == (rd t268 x6_1)) = true := beq_iff_eq.mpr c34
                                          have c34b1 : ((rd t268 x7_2) != (rd t268 x6_1)) = false := bne_eq_false_iff_eq.mpr c34
                                          clear c34
                                          exact absurd ((Option.some.inj H).trans hrt.out) (by decide)
                                        · rw [if_neg c34] at H
                                          have c34b0 : ((rd t268 x7_2) == (rd t268 x6_1)) = false := beq_eq_false_iff_ne.mpr c34
                                          have c34b1 : ((rd t268 x7_2) != (rd t268 x6_1)) = true := bne_iff_ne.mpr c34
                                          have H' := Aside0.mk H
                                          clear H
                                          have p275 : 0 ≤ (x7_2 : Int) := of_decide_eq_true (by first | (with_reducible assumption) | assumption)
                                          have q275 : x7_2 < (t268.length : Int) := of_decide_eq_true (by first | (with_reducible assumption) | assumption)
                                          obtain ⟨ad275, e275, hx275_0⟩ := Kd.at_int (Kd.R_reads' HO_5.out).2.2 x7_2 p275 q275
                                          obtain rfl : ad273 = ad275 := (by injection e275)
                                          replace p275 := eq_true p275
                                          replace q275 := eq_true q275
                                          have p276 : 0 ≤ (x6_1 : Int) := of_decide_eq_true (by first | (with_reducible assumption) | assumption)
                                          have q276 : x6_1 < (t268.length : Int) := of_decide_eq_true (by first | (with_reducible assumption) | assumption)
                                          obtain ⟨ad276, e276, hx276_0⟩ := Kd.at_int (Kd.R_reads' HO_5.out).2.2 x6_1 p276 q276
                                          obtain rfl : ad273 = ad276 := (by injection e276)
                                          replace p276 := eq_true p276
                                          replace q276 := eq_true q276
                                          go_wp2
                                          repeat (go_quiet (fail); try go_wp2)
                                          go_roundg k2
                                          case measure => have := HK1.out; have := HK2.out; omega
                                          case rel => exact ⟨(wrap64 (x7_2 + 1)), (by first | rfl | (simp; done) | (simp [*]; done)), H', ⟨by have := HK1.out; have := HK2.out; omega⟩, ⟨by (with_reducible repeat (first | apply Kd.R_alloc | apply Kd.R_drewN | apply Kd.R_drew)); exact HO_5.out⟩, ⟨by (with_reducible repeat (first | refine blk_drewN ?_ _ | refine blk_drew ?_ | refine blk_alloc ?_ _)); exact BK267.out⟩, ⟨by repeat (first | (with_reducible exact HR266_0.out) | (with_reducible refine Kd.C_alloc ?_ _) | (with_reducible refine Kd.C_drewN ?_ _) | (with_reducible refine Kd.C_drew ?_) | exact HR266_0.out)⟩, ⟨by repeat (first | (with_reducible exact HR266_3.out) | (with_reducible refine Kd.C_alloc ?_ _) | (with_reducible refine Kd.C_drewN ?_ _) | (with_reducible refine Kd.C_drew ?_) | exact HR266_3.out)⟩, ⟨by repeat (first | (with_reducible first | exact HB.out | apply below_alloc | apply pw_below_drewN | apply below_drew1 | refine below_set ?_ GE267.out) | exact HB.out)⟩⟩
                                      · rw [if_neg c33] at H
                                        exact absurd H (by simp)
                                    · rw [if_neg c32] at H
                                      exact absurd H (by simp)
                                  · rw [if_neg c31] at H
                                    exact absurd H (by simp)
                                · rw [if_neg c30] at H
                                  exact absurd H (by simp)
                              · rw [if_neg c29] at H
                                have c29b0 : decide (x7_2 < x6_1) = false := decide_eq_false c29
                                clear c29
                                have H' := Aside0.mk H
                                clear H
                                go_wp2
                                repeat (go_quiet (fail); try go_wp2)
                                go_roundg k2
                                case measure => have := HK1.out; have := HK2.out; omega
                                case rel => exact ⟨(wrap64 (x6_1 + 1)), (by first | rfl | (simp; done) | (simp [*]; done)), H', ⟨by have := HK1.out; have := HK2.out; omega⟩, ⟨by (with_reducible repeat (first | apply Kd.R_alloc | apply Kd.R_drewN | apply Kd.R_drew)); exact HO_5.out⟩, ⟨by (with_reducible repeat (first | refine blk_drewN ?_ _ | refine blk_drew ?_ | refine blk_alloc ?_ _)); exact BK267.out⟩, ⟨by repeat (first | (with_reducible exact HR266_0.out) | (with_reducible refine Kd.C_alloc ?_ _) | (with_reducible refine Kd.C_drewN ?_ _) | (with_reducible refine Kd.C_drew ?_) | exact HR266_0.out)⟩, ⟨by repeat (first | (with_reducible exact HR266_3.out) | (with_reducible refine Kd.C_alloc ?_ _) | (with_reducible refine Kd.C_drewN ?_ _) | (with_reducible refine Kd.C_drew ?_) | exact HR266_3.out)⟩, ⟨by repeat (first | (with_reducible first | exact HB.out | apply below_alloc | apply pw_below_drewN | apply below_drew1 | refine below_set ?_ GE267.out) | exact HB.out)⟩⟩
                        · replace c27 := Bool.eq_false_iff.mpr c27
                          subst c27
                          have H1 : (some false) = some r := by rw [if_neg (show ¬ (false = true) by decide)] at H; exact H
                          clear H
                          have H := H1
                          clear H1
                          exact absurd ((Option.some.inj H).trans hrt.out) (by decide)
                      · rw [if_neg c25] at H
                        exact absurd H (by simp)
                    · rw [if_neg c24] at H
                      have c24b0 : decide (x6_1 < (t268.length : Int)) = false := decide_eq_false c24
                      clear c24
                      have H' := Aside0.mk H
                      clear H
                      go_wp2
                      repeat (go_quiet (fail); try go_wp2)
                      go_loopg [8] k1 (fun kq v8 w' => ∃ (x8_2 : Int), v8 = .int .i64 x8_2 ∧ Aside0 (sobriquetlaw22_AttrKinds.l2 kq x8_2 ((rd_T27 t263 (ji5)).f0) ((rd_T27 t263 (ji5)).f1) ((rd_T27 t263 (ji5)).f2) ((rd_T27 t263 (ji5)).f3) = some r) ∧ Aside0 (kq ≤ k1) ∧ Aside0 (w'.heap[gb267]? = some (.cells #[(.slice A266_0 ((rd_T27 t263 (ji5)).f0).length c266_0), .string ((rd_T27 t263 (ji5)).f1), .int .i64 ((rd_T27 t263 (ji5)).f2), (.slice A266_3 ((rd_T27 t263 (ji5)).f3).length c266_3)] 27 (0, 0))) ∧ Aside0 (Kd.C (Kd.int .i64) w' A266_0 ((rd_T27 t263 (ji5)).f0).length ((rd_T27 t263 (ji5)).f0)) ∧ Aside0 (Kd.C (Kd.int .i64) w' A266_3 ((rd_T27 t263 (ji5)).f3).length ((rd_T27 t263 (ji5)).f3)) ∧ Aside0 (Below w.heap.size w w'))
                      case atStart => exact ⟨(0), (by first | rfl | (simp; done) | (simp [*]; done)), H', ⟨Nat.le_refl _⟩, ⟨by (with_reducible repeat (first | refine blk_drewN ?_ _ | refine blk_drew ?_ | refine blk_alloc ?_ _)); exact BK267.out⟩, ⟨by repeat (first | (with_reducible exact HR266_0.out) | (with_reducible refine Kd.C_alloc ?_ _) | (with_reducible refine Kd.C_drewN ?_ _) | (with_reducible refine Kd.C_drew ?_) | exact HR266_0.out)⟩, ⟨by repeat (first | (with_reducible exact HR266_3.out) | (with_reducible refine Kd.C_alloc ?_ _) | (with_reducible refine Kd.C_drewN ?_ _) | (with_reducible refine Kd.C_drew ?_) | exact HR266_3.out)⟩, ⟨by repeat (first | (with_reducible first | exact HB.out | apply below_alloc | apply pw_below_drewN | apply below_drew1 | refine below_set ?_ GE267.out) | exact HB.out)⟩⟩
                      case round =>
                        clear H'
                        try clear c1
                        try clear c2
                        try clear p2
                        try clear q2
                        try clear hx2
                        try clear c3
                        try clear c3b0
                        try clear c3b1
                        try clear c3b2
                        try clear c4
                        try clear c4b0
                        try clear c4b1
                        try clear c5
                        try clear c6
                        try clear c6b0
                        try clear p6
                        try clear c7
                        try clear c7b0
                        try clear c9
                        try clear c9b0
                        try clear c9b1
                        try clear c9b2
                        try clear c11
                        try clear c11b0
                        try clear c13
                        try clear c13b0
                        try clear c24
                        try clear c24b0
                        try clear c25
                        try clear c25b0
                        try clear c26
                        try clear p26
                        try clear q26
                        try clear hx26
                        try clear c27
                        try clear p27
                        try clear q27
                        try clear hx27
                        try clear c29
                        try clear c29b0
                        try clear c30
                        try clear c30b0
                        try clear c31
                        try clear c31b0
                        try clear c32
                        try clear c32b0
                        try clear c33
                        try clear c33b0
                        try clear c34
                        try clear c34b0
                        try clear c34b1
                        try clear hcz17_0
                        try clear hcz17_1
                        try clear hcz17_2
                        try clear hcz17_3
                        try clear hcz20_0
                        try clear hcz20_1
                        try clear hcz20_2
                        try clear hcz20_3
                        try clear hcz22_0
                        try clear hcz22_1
                        try clear hcz22_2
                        try clear hcz22_3
                        try clear hfz17_0
                        try clear hfz17_1
                        try clear hfz17_2
                        try clear hfz17_3
                        try clear hfz20_0
                        try clear hfz20_1
                        try clear hfz20_2
                        try clear hfz20_3
                        try clear hfz22_0
                        try clear hfz22_1
                        try clear hfz22_2
                        try clear hfz22_3
                        try clear hx266_0
                        try clear hx266_1
                        try clear hx266_2
                        try clear hx266_3
                        try clear hx273_0
                        try clear hx275_0
                        try clear hx276_0
                        try clear p2
                        try clear p26
                        try clear p266
                        try clear p27
                        try clear p273
                        try clear p275
                        try clear p276
                        try clear p6
                        try clear q2
                        try clear q26
                        try clear q266
                        try clear q27
                        try clear q273
                        try clear q275
                        try clear q276
                        obtain ⟨x8_2, rfl, HA, HK2, BK267, HR266_0, HR266_3, HB⟩ := hrel
                        cases gk with
                        | zero => exact absurd HA.out (by simp [sobriquetlaw22_AttrKinds.l2])
                        | succ k2 =>
                          have H := HA.out
                          clear HA
                          simp only [sobriquetlaw22_AttrKinds.l2] at H
                          by_cases c35 : x8_2 < (((rd_T27 t263 (ji5)).f1).size : Int)
                          · rw [if_pos c35] at H
                            have c35b0 : decide (x8_2 < (((rd_T27 t263 (ji5)).f1).size : Int)) = true := decide_eq_true c35
                            clear c35
                            by_cases c36 : 0 ≤ x8_2
                            · rw [if_pos c36] at H
                              have c36b0 : decide (0 ≤ x8_2) = true := decide_eq_true c36
                              clear c36
                              by_cases c38 : (bt ((rd_T27 t263 (ji5)).f1) x8_2) < 65
                              · rw [if_pos c38] at H
                                have c38b0 : decide ((bt ((rd_T27 t263 (ji5)).f1) x8_2) < 65) = true := decide_eq_true c38
                                clear c38
                                by_cases c39 : x8_2 = 0
                                · rw [if_pos c39] at H
                                  have c39b0 : (x8_2 == 0) = true := beq_iff_eq.mpr c39
                                  have c39b1 : (x8_2 != 0) = false := bne_eq_false_iff_eq.mpr c39
                                  clear c39
                                  exact absurd ((Option.some.inj H).trans hrt.out) (by decide)
                                · rw [if_neg c39] at H
                                  have c39b0 : (x8_2 == 0) = false := beq_eq_false_iff_ne.mpr c39
                                  have c39b1 : (x8_2 != 0) = true := bne_iff_ne.mpr c39
                                  by_cases c40 : (bt ((rd_T27 t263 (ji5)).f1) x8_2) < 48
                                  · rw [if_pos c40] at H
                                    have c40b0 : decide ((bt ((rd_T27 t263 (ji5)).f1) x8_2) < 48) = true := decide_eq_true c40
                                    clear c40
                                    exact absurd ((Option.some.inj H).trans hrt.out) (by decide)
                                  · rw [if_neg c40] at H
                                    have c40b0 : decide ((bt ((rd_T27 t263 (ji5)).f1) x8_2) < 48) = false := decide_eq_false c40
                                    clear c40
                                    by_cases c41 : (bt ((rd_T27 t263 (ji5)).f1) x8_2) > 57
                                    · rw [if_pos c41] at H
                                      have c41b0 : decide (57 < (bt ((rd_T27 t263 (ji5)).f1) x8_2)) = true := decide_eq_true c41
                                      clear c41
                                      exact absurd ((Option.some.inj H).trans hrt.out) (by decide)
                                    · rw [if_neg c41] at H
                                      have c41b0 : decide (57 < (bt ((rd_T27 t263 (ji5)).f1) x8_2)) = false := decide_eq_false c41
                                      clear c41
                                      have H' := Aside0.mk H
                                      clear H
                                      have hcz42_0 : wr.cell? ⟨gb267, 0, none⟩ = some (.slice A266_0 ((rd_T27 t263 (ji5)).f0).length c266_0) := (blk_cell BK267.out 0).trans rfl
                                      have hcz42_1 : wr.cell? ⟨gb267, 1, none⟩ = some (.string ((rd_T27 t263 (ji5)).f1)) := (blk_cell BK267.out 1).trans rfl
                                      have hcz42_2 : wr.cell? ⟨gb267, 2, none⟩ = some (.int .i64 ((rd_T27 t263 (ji5)).f2)) := (blk_cell BK267.out 2).trans rfl
                                      have hcz42_3 : wr.cell? ⟨gb267, 3, none⟩ = some (.slice A266_3 ((rd_T27 t263 (ji5)).f3).length c266_3) := (blk_cell BK267.out 3).trans rfl
                                      have hfz42_0 := blk_frozen BK267.out 0
                                      have hfz42_1 := blk_frozen BK267.out 1
                                      have hfz42_2 := blk_frozen BK267.out 2
                                      have hfz42_3 := blk_frozen BK267.out 3
                                      have p37 : 0 ≤ (x8_2 : Int) := of_decide_eq_true (by first | (with_reducible assumption) | assumption)
                                      have q37 : x8_2 < (((rd_T27 t263 (ji5)).f1).size : Int) := of_decide_eq_true (by first | (with_reducible assumption) | assumption)
                                      have hx37 := bt_at ((rd_T27 t263 (ji5)).f1) x8_2
                                      replace p37 := eq_true p37
                                      replace q37 := eq_true q37
                                      go_wp2
                                      repeat (go_quiet (fail); try go_wp2)
                                      go_roundg k2
                                      case measure => have := HK1.out; have := HK2.out; omega
                                      case rel => exact ⟨(wrap64 (x8_2 + 1)), (by first | rfl | (simp; done) | (simp [*]; done)), H', ⟨by have := HK1.out; have := HK2.out; omega⟩, ⟨by (with_reducible repeat (first | refine blk_drewN ?_ _ | refine blk_drew ?_ | refine blk_alloc ?_ _)); exact BK267.out⟩, ⟨by repeat (first | (with_reducible exact HR266_0.out) | (with_reducible refine Kd.C_alloc ?_ _) | (with_reducible refine Kd.C_drewN ?_ _) | (with_reducible refine Kd.C_drew ?_) | exact HR266_0.out)⟩, ⟨by repeat (first | (with_reducible exact HR266_3.out) | (with_reducible refine Kd.C_alloc ?_ _) | (with_reducible refine Kd.C_drewN ?_ _) | (with_reducible refine Kd.C_drew ?_) | exact HR266_3.out)⟩, ⟨by repeat (first | (with_reducible first | exact HB.out | apply below_alloc | apply pw_below_drewN | apply below_drew1 | refine below_set ?_ GE267.out) | exact HB.out)⟩⟩
                              · rw [if_neg c38] at H
                                have c38b0 : decide ((bt ((rd_T27 t263 (ji5)).f1) x8_2) < 65) = false := decide_eq_false c38
                                clear c38
                                by_cases c43 : (bt ((rd_T27 t263 (ji5)).f1) x8_2) > 90
                                · rw [if_pos c43] at H
                                  have c43b0 : decide (90 < (bt ((rd_T27 t263 (ji5)).f1) x8_2)) = true := decide_eq_true c43
                                  clear c43
                                  by_cases c44 : x8_2 = 0
                                  · rw [if_pos c44] at H
                                    have c44b0 : (x8_2 == 0) = true := beq_iff_eq.mpr c44
                                    have c44b1 : (x8_2 != 0) = false := bne_eq_false_iff_eq.mpr c44
                                    clear c44
                                    exact absurd ((Option.some.inj H).trans hrt.out) (by decide)
                                  · rw [if_neg c44] at H
                                    have c44b0 : (x8_2 == 0) = false := beq_eq_false_iff_ne.mpr c44
                                    have c44b1 : (x8_2 != 0) = true := bne_iff_ne.mpr c44
                                    by_cases c45 : (bt ((rd_T27 t263 (ji5)).f1) x8_2) < 48
                                    · rw [if_pos c45] at H
                                      have c45b0 : decide ((bt ((rd_T27 t263 (ji5)).f1) x8_2) < 48) = true := decide_eq_true c45
                                      clear c45
                                      exact absurd ((Option.some.inj H).trans hrt.out) (by decide)
                                    · rw [if_neg c45] at H
                                      have c45b0 : decide ((bt ((rd_T27 t263 (ji5)).f1) x8_2) < 48) = false := decide_eq_false c45
                                      clear c45
                                      by_cases c46 : (bt ((rd_T27 t263 (ji5)).f1) x8_2) > 57
                                      · rw [if_pos c46] at H
                                        have c46b0 : decide (57 < (bt ((rd_T27 t263 (ji5)).f1) x8_2)) = true := decide_eq_true c46
                                        clear c46
                                        exact absurd ((Option.some.inj H).trans hrt.out) (by decide)
                                      · rw [if_neg c46] at H
                                        have c46b0 : decide (57 < (bt ((rd_T27 t263 (ji5)).f1) x8_2)) = false := decide_eq_false c46
                                        clear c46
                                        have H' := Aside0.mk H
                                        clear H
                                        have hcz47_0 : wr.cell? ⟨gb267, 0, none⟩ = some (.slice A266_0 ((rd_T27 t263 (ji5)).f0).length c266_0) := (blk_cell BK267.out 0).trans rfl
                                        have hcz47_1 : wr.cell? ⟨gb267, 1, none⟩ = some (.string ((rd_T27 t263 (ji5)).f1)) := (blk_cell BK267.out 1).trans rfl
                                        have hcz47_2 : wr.cell? ⟨gb267, 2, none⟩ = some (.int .i64 ((rd_T27 t263 (ji5)).f2)) := (blk_cell BK267.out 2).trans rfl
                                        have hcz47_3 : wr.cell? ⟨gb267, 3, none⟩ = some (.slice A266_3 ((rd_T27 t263 (ji5)).f3).length c266_3) := (blk_cell BK267.out 3).trans rfl
                                        have hfz47_0 := blk_frozen BK267.out 0
                                        have hfz47_1 := blk_frozen BK267.out 1
                                        have hfz47_2 := blk_frozen BK267.out 2
                                        have hfz47_3 := blk_frozen BK267.out 3
                                        have p37 : 0 ≤ (x8_2 : Int) := of_decide_eq_true (by first | (with_reducible assumption) | assumption)
                                        have q37 : x8_2 < (((rd_T27 t263 (ji5)).f1).size : Int) := of_decide_eq_true (by first | (with_reducible assumption) | assumption)
                                        have hx37 := bt_at ((rd_T27 t263 (ji5)).f1) x8_2
                                        replace p37 := eq_true p37
                                        replace q37 := eq_true q37
                                        go_wp2
                                        repeat (go_quiet (fail); try go_wp2)
                                        go_roundg k2
                                        case measure => have := HK1.out; have := HK2.out; omega
                                        case rel => exact ⟨(wrap64 (x8_2 + 1)), (by first | rfl | (simp; done) | (simp [*]; done)), H', ⟨by have := HK1.out; have := HK2.out; omega⟩, ⟨by (with_reducible repeat (first | refine blk_drewN ?_ _ | refine blk_drew ?_ | refine blk_alloc ?_ _)); exact BK267.out⟩, ⟨by repeat (first | (with_reducible exact HR266_0.out) | (with_reducible refine Kd.C_alloc ?_ _) | (with_reducible refine Kd.C_drewN ?_ _) | (with_reducible refine Kd.C_drew ?_) | exact HR266_0.out)⟩, ⟨by repeat (first | (with_reducible exact HR266_3.out) | (with_reducible refine Kd.C_alloc ?_ _) | (with_reducible refine Kd.C_drewN ?_ _) | (with_reducible refine Kd.C_drew ?_) | exact HR266_3.out)⟩, ⟨by repeat (first | (with_reducible first | exact HB.out | apply below_alloc | apply pw_below_drewN | apply below_drew1 | refine below_set ?_ GE267.out) | exact HB.out)⟩⟩
                                · rw [if_neg c43] at H
                                  have c43b0 : decide (90 < (bt ((rd_T27 t263 (ji5)).f1) x8_2)) = false := decide_eq_false c43
                                  clear c43
                                  have H' := Aside0.mk H
                                  clear H
                                  have hcz48_0 : wr.cell? ⟨gb267, 0, none⟩ = some (.slice A266_0 ((rd_T27 t263 (ji5)).f0).length c266_0) := (blk_cell BK267.out 0).trans rfl
                                  have hcz48_1 : wr.cell? ⟨gb267, 1, none⟩ = some (.string ((rd_T27 t263 (ji5)).f1)) := (blk_cell BK267.out 1).trans rfl
                                  have hcz48_2 : wr.cell? ⟨gb267, 2, none⟩ = some (.int .i64 ((rd_T27 t263 (ji5)).f2)) := (blk_cell BK267.out 2).trans rfl
                                  have hcz48_3 : wr.cell? ⟨gb267, 3, none⟩ = some (.slice A266_3 ((rd_T27 t263 (ji5)).f3).length c266_3) := (blk_cell BK267.out 3).trans rfl
                                  have hfz48_0 := blk_frozen BK267.out 0
                                  have hfz48_1 := blk_frozen BK267.out 1
                                  have hfz48_2 := blk_frozen BK267.out 2
                                  have hfz48_3 := blk_frozen BK267.out 3
                                  have p37 : 0 ≤ (x8_2 : Int) := of_decide_eq_true (by first | (with_reducible assumption) | assumption)
                                  have q37 : x8_2 < (((rd_T27 t263 (ji5)).f1).size : Int) := of_decide_eq_true (by first | (with_reducible assumption) | assumption)
                                  have hx37 := bt_at ((rd_T27 t263 (ji5)).f1) x8_2
                                  replace p37 := eq_true p37
                                  replace q37 := eq_true q37
                                  go_wp2
                                  repeat (go_quiet (fail); try go_wp2)
                                  go_roundg k2
                                  case measure => have := HK1.out; have := HK2.out; omega
                                  case rel => exact ⟨(wrap64 (x8_2 + 1)), (by first | rfl | (simp; done) | (simp [*]; done)), H', ⟨by have := HK1.out; have := HK2.out; omega⟩, ⟨by (with_reducible repeat (first | refine blk_drewN ?_ _ | refine blk_drew ?_ | refine blk_alloc ?_ _)); exact BK267.out⟩, ⟨by repeat (first | (with_reducible exact HR266_0.out) | (with_reducible refine Kd.C_alloc ?_ _) | (with_reducible refine Kd.C_drewN ?_ _) | (with_reducible refine Kd.C_drew ?_) | exact HR266_0.out)⟩, ⟨by repeat (first | (with_reducible exact HR266_3.out) | (with_reducible refine Kd.C_alloc ?_ _) | (with_reducible refine Kd.C_drewN ?_ _) | (with_reducible refine Kd.C_drew ?_) | exact HR266_3.out)⟩, ⟨by repeat (first | (with_reducible first | exact HB.out | apply below_alloc | apply pw_below_drewN | apply below_drew1 | refine below_set ?_ GE267.out) | exact HB.out)⟩⟩
                            · rw [if_neg c36] at H
                              exact absurd H (by simp)
                          · rw [if_neg c35] at H
                            have c35b0 : decide (x8_2 < (((rd_T27 t263 (ji5)).f1).size : Int)) = false := decide_eq_false c35
                            clear c35
                            replace H := Option.bind_eq_some_iff.mp H
                            obtain ⟨t277, A490, H⟩ := H
                            replace H : (some t277) = some r := H
                            have A49 := Aside0.mk A490
                            clear A490
                            obtain rfl := Option.some.inj H
                            have hcz50_0 : wr.cell? ⟨gb267, 0, none⟩ = some (.slice A266_0 ((rd_T27 t263 (ji5)).f0).length c266_0) := (blk_cell BK267.out 0).trans rfl
                            have hcz50_1 : wr.cell? ⟨gb267, 1, none⟩ = some (.string ((rd_T27 t263 (ji5)).f1)) := (blk_cell BK267.out 1).trans rfl
                            have hcz50_2 : wr.cell? ⟨gb267, 2, none⟩ = some (.int .i64 ((rd_T27 t263 (ji5)).f2)) := (blk_cell BK267.out 2).trans rfl
                            have hcz50_3 : wr.cell? ⟨gb267, 3, none⟩ = some (.slice A266_3 ((rd_T27 t263 (ji5)).f3).length c266_3) := (blk_cell BK267.out 3).trans rfl
                            have hfz50_0 := blk_frozen BK267.out 0
                            have hfz50_1 := blk_frozen BK267.out 1
                            have hfz50_2 := blk_frozen BK267.out 2
                            have hfz50_3 := blk_frozen BK267.out 3
                            go_wp2_with (first | (go_at_call 14; (with_reducible refine (sobriquetlaw22_wakes.calls k2  t277 _ A49.out (by first | exact hrt.out | rfl)).mono ?_); rintro e w51 ⟨rfl, hb⟩; have n0_ := Aside0.mk (blk_below (g := gb267) (o := .cells #[.slice A266_0 ((rd_T27 t263 (ji5)).f0).length c266_0, .string ((rd_T27 t263 (ji5)).f1), .int .i64 ((rd_T27 t263 (ji5)).f2), .slice A266_3 ((rd_T27 t263 (ji5)).f3).length c266_3] 27 (0, 0)) (by (with_reducible repeat (first | refine blk_drewN ?_ _ | refine blk_drew ?_ | refine blk_alloc ?_ _)); exact BK267.out) hb); have n1_ := Aside0.mk (Kd.C_below (by repeat (first | (with_reducible exact HR266_0.out) | (with_reducible refine Kd.C_alloc ?_ _) | (with_reducible refine Kd.C_drewN ?_ _) | (with_reducible refine Kd.C_drew ?_) | exact HR266_0.out)) hb); have n2_ := Aside0.mk (Kd.C_below (by repeat (first | (with_reducible exact HR266_3.out) | (with_reducible refine Kd.C_alloc ?_ _) | (with_reducible refine Kd.C_drewN ?_ _) | (with_reducible refine Kd.C_drew ?_) | exact HR266_3.out)) hb); have n3_ := Aside0.mk (below_step (by repeat (first | (with_reducible first | exact HB.out | apply below_alloc | apply pw_below_drewN | apply below_drew1 | refine below_set ?_ GE267.out) | exact HB.out)) hb); clear BK267; clear HR266_0; clear HR266_3; clear HB; have BK267 := n0_; have HR266_0 := n1_; have HR266_3 := n2_; have HB := n3_; clear n0_ n1_ n2_ n3_; (try clear hb); (try clear hb2); (try clear hk); (try clear hi)))
                            repeat (go_quiet (first | (go_at_call 14; (with_reducible refine (sobriquetlaw22_wakes.calls k2  t277 _ A49.out (by first | exact hrt.out | rfl)).mono ?_); rintro e w51 ⟨rfl, hb⟩; have n0_ := Aside0.mk (blk_below (g := gb267) (o := .cells #[.slice A266_0 ((rd_T27 t263 (ji5)).f0).length c266_0, .string ((rd_T27 t263 (ji5)).f1), .int .i64 ((rd_T27 t263 (ji5)).f2), .slice A266_3 ((rd_T27 t263 (ji5)).f3).length c266_3] 27 (0, 0)) (by (with_reducible repeat (first | refine blk_drewN ?_ _ | refine blk_drew ?_ | refine blk_alloc ?_ _)); exact BK267.out) hb); have n1_ := Aside0.mk (Kd.C_below (by repeat (first | (with_reducible exact HR266_0.out) | (with_reducible refine Kd.C_alloc ?_ _) | (with_reducible refine Kd.C_drewN ?_ _) | (with_reducible refine Kd.C_drew ?_) | exact HR266_0.out)) hb); have n2_ := Aside0.mk (Kd.C_below (by repeat (first | (with_reducible exact HR266_3.out) | (with_reducible refine Kd.C_alloc ?_ _) | (with_reducible refine Kd.C_drewN ?_ _) | (with_reducible refine Kd.C_drew ?_) | exact HR266_3.out)) hb); have n3_ := Aside0.mk (below_step (by repeat (first | (with_reducible first | exact HB.out | apply below_alloc | apply pw_below_drewN | apply below_drew1 | refine below_set ?_ GE267.out) | exact HB.out)) hb); clear BK267; clear HR266_0; clear HR266_3; clear HB; have BK267 := n0_; have HR266_0 := n1_; have HR266_3 := n2_; have HB := n3_; clear n0_ n1_ n2_ n3_; (try clear hb); (try clear hb2); (try clear hk); (try clear hi))); try go_wp2_with (first | (go_at_call 14; (with_reducible refine (sobriquetlaw22_wakes.calls k2  t277 _ A49.out (by first | exact hrt.out | rfl)).mono ?_); rintro e w51 ⟨rfl, hb⟩; have n0_ := Aside0.mk (blk_below (g := gb267) (o := .cells #[.slice A266_0 ((rd_T27 t263 (ji5)).f0).length c266_0, .string ((rd_T27 t263 (ji5)).f1), .int .i64 ((rd_T27 t263 (ji5)).f2), .slice A266_3 ((rd_T27 t263 (ji5)).f3).length c266_3] 27 (0, 0)) (by (with_reducible repeat (first | refine blk_drewN ?_ _ | refine blk_drew ?_ | refine blk_alloc ?_ _)); exact BK267.out) hb); have n1_ := Aside0.mk (Kd.C_below (by repeat (first | (with_reducible exact HR266_0.out) | (with_reducible refine Kd.C_alloc ?_ _) | (with_reducible refine Kd.C_drewN ?_ _) | (with_reducible refine Kd.C_drew ?_) | exact HR266_0.out)) hb); have n2_ := Aside0.mk (Kd.C_below (by repeat (first | (with_reducible exact HR266_3.out) | (with_reducible refine Kd.C_alloc ?_ _) | (with_reducible refine Kd.C_drewN ?_ _) | (with_reducible refine Kd.C_drew ?_) | exact HR266_3.out)) hb); have n3_ := Aside0.mk (below_step (by repeat (first | (with_reducible first | exact HB.out | apply below_alloc | apply pw_below_drewN | apply below_drew1 | refine below_set ?_ GE267.out) | exact HB.out)) hb); clear BK267; clear HR266_0; clear HR266_3; clear HB; have BK267 := n0_; have HR266_0 := n1_; have HR266_3 := n2_; have HB := n3_; clear n0_ n1_ n2_ n3_; (try clear hb); (try clear hb2); (try clear hk); (try clear hi))))
                            go_ret
                            exact ⟨by first | rfl | (simp [errW_none, errW_some] <;> rfl) | (simp only [← hji5]; first | rfl | (simp [errW_none, errW_some] <;> rfl)) | (simp [*, errW_none, errW_some] <;> rfl), by repeat (first | (with_reducible first | exact HB.out | apply below_alloc | apply pw_below_drewN | apply below_drew1 | refine below_set ?_ GE267.out) | exact HB.out)⟩
        · rw [if_neg c7] at H
          exact absurd H (by simp)
      · rw [if_neg c6] at H
        exact absurd H (by simp)

/-- THE ONE PURE STATEMENT of sobriquetlaw22_AttrKinds: yours. -/
def sobriquetlaw22_AttrKinds.Pure : Prop := ∀ (a0 : Int), (Lit.int .i64 a0).wf = true → ∃ k, sobriquetlaw22_AttrKinds.f k a0 = some true
theorem sobriquetlaw22_AttrKinds.walk (P : sobriquetlaw22_AttrKinds.Pure) (a0 : Int) (w : World) (w0 : (Lit.int .i64 a0).wf = true) :
    Calls Try.prog 5 #[.int .i64 a0] w fun e w' => e = .returned (.bool true) ∧ Below w.heap.size w w' := by
  obtain ⟨k, h⟩ := P a0 w0
  refine (sobriquetlaw22_AttrKinds.calls k a0 true w h rfl).mono ?_
  rintro e w' ⟨rfl, hd⟩
  exact ⟨rfl, hd⟩

end Go.Proofs.Yteclbjjdhckgoaa.MAttrKinds
