-- Written by a program of this session over the translation; checked by Lean alone.
import Derived.Test.YtogbpdmncnldhaaMWellFormsx0
import Derived.Test.YtogbpdmncnldhaaMWellFormsx1
namespace Go.Proofs.Ytogbpdmncnldhaa.MWellForms
open Go.RowKit Go.Proofs.YtogbpdmncnldhaaW.PrintWords Go.Proofs.YtogbpdmncnldhaaW.PrintLast Go.Proofs.YtogbpdmncnldhaaW.PrintMore
attribute [local go_sem] max2_int min2_int max_two min_two max_three min_three max_four min_four   -- for this text's walks alone
set_option linter.unusedVariables false
set_option linter.unusedSimpArgs false
set_option linter.unnecessarySimpa false

/-! ### sobriquetlaw02_WellForms: function 7 -/
mutual
def sobriquetlaw02_WellForms.j0 : Nat → Int → Int → Bool → Int → Bool → Option (Bool)
  | 0, _, _, _, _, _ => none
  | k + 1, x0, x1, x2, x8, x25 => if x25 = true then (if x8 = 3 then ((sobriquetlaw02_wakes.f k).bind fun t171 => (some t171)) else (some false)) else (if x0 = 0 then (if x1 < 31 then (if x1 = 8 then (sobriquetlaw02_WellForms.j1 k x8 (x2 != true)) else (if x1 = 11 then (sobriquetlaw02_WellForms.j1 k x8 (x2 != true)) else (if x1 = 16 then (sobriquetlaw02_WellForms.j1 k x8 (x2 != true)) else (sobriquetlaw02_WellForms.j1 k x8 (x2 != (x1 == 17)))))) else (sobriquetlaw02_WellForms.j1 k x8 false)) else (sobriquetlaw02_WellForms.j1 k x8 false))
def sobriquetlaw02_WellForms.j1 : Nat → Int → Bool → Option (Bool)
  | 0, _, _ => none
  | k + 1, x8, x37 => if x37 = true then (if x8 = 7 then ((sobriquetlaw02_wakes.f k).bind fun t172 => (some t172)) else (some false)) else (if x8 = 0 then ((sobriquetlaw02_wakes.f k).bind fun t173 => (some t173)) else (some false))
end
def sobriquetlaw02_WellForms.f (k : Nat) (a0 : Int) (a1 : Int) (a2 : Bool) : Option (Bool) := (sobriquetref01_Wrap.f k (wrap64 (Int.tmod (IntKind.u64.wrap (a0)) 4)) (wrap64 (Int.tmod (IntKind.u64.wrap (a1)) 60)) a2 ([] : List Int)).bind fun t166 => ((well_Check.f k t166).bind fun bt169 => (if (wrap64 (Int.tmod (IntKind.u64.wrap (a0)) 4)) = 0 then (sobriquetlaw02_WellForms.j0 k (wrap64 (Int.tmod (IntKind.u64.wrap (a0)) 4)) (wrap64 (Int.tmod (IntKind.u64.wrap (a1)) 60)) a2 bt169.2 ((wrap64 (Int.tmod (IntKind.u64.wrap (a1)) 60)) == 0)) else (sobriquetlaw02_WellForms.j0 k (wrap64 (Int.tmod (IntKind.u64.wrap (a0)) 4)) (wrap64 (Int.tmod (IntKind.u64.wrap (a1)) 60)) a2 bt169.2 false)))
theorem sobriquetlaw02_WellForms.mono_l : ∀ k, (∀ y0 y1 y2 y3 y4, LeO (sobriquetlaw02_WellForms.j0 k y0 y1 y2 y3 y4) (sobriquetlaw02_WellForms.j0 (k + 1) y0 y1 y2 y3 y4)) ∧ (∀ y0 y1, LeO (sobriquetlaw02_WellForms.j1 k y0 y1) (sobriquetlaw02_WellForms.j1 (k + 1) y0 y1))
  | 0 => ⟨fun _ _ _ _ _ r h => by simp [sobriquetlaw02_WellForms.j0] at h, fun _ _ r h => by simp [sobriquetlaw02_WellForms.j1] at h⟩
  | k + 1 => by
    obtain ⟨ih0, ih1⟩ := sobriquetlaw02_WellForms.mono_l k
    refine ⟨?_, ?_⟩
    · intro y0 y1 y2 y3 y4
      unfold sobriquetlaw02_WellForms.j0
      repeat' first
      | (with_reducible exact ih0 _ _ _ _ _)
      | (with_reducible exact ih1 _ _)
      | (with_reducible exact sobriquetlaw02_wakes.mono _)
      | (with_reducible exact sobriquetref01_Wrap.mono _ _ _ _ _)
      | (with_reducible exact well_Check.mono _ _)
      | (with_reducible exact LeO.refl _)
      | (with_reducible exact LeO.none _)
      | (with_reducible refine LeO.ite ?_ ?_)
      | (with_reducible refine LeO.bind ?_ (fun _ => ?_))
      | exact ih0 _ _ _ _ _
      | exact ih1 _ _
      | exact sobriquetlaw02_wakes.mono _
      | exact sobriquetref01_Wrap.mono _ _ _ _ _
      | exact well_Check.mono _ _
      | exact LeO.none _
      | refine LeO.ite ?_ ?_
      | refine LeO.bind ?_ (fun _ => ?_)
    · intro y0 y1
      unfold sobriquetlaw02_WellForms.j1
      repeat' first
      | (with_reducible exact ih0 _ _ _ _ _)
      | (with_reducible exact ih1 _ _)
      | (with_reducible exact sobriquetlaw02_wakes.mono _)
      | (with_reducible exact sobriquetref01_Wrap.mono _ _ _ _ _)
      | (with_reducible exact well_Check.mono _ _)
      | (with_reducible exact LeO.refl _)
      | (with_reducible exact LeO.none _)
      | (with_reducible refine LeO.ite ?_ ?_)
      | (with_reducible refine LeO.bind ?_ (fun _ => ?_))
      | exact ih0 _ _ _ _ _
      | exact ih1 _ _
      | exact sobriquetlaw02_wakes.mono _
      | exact sobriquetref01_Wrap.mono _ _ _ _ _
      | exact well_Check.mono _ _
      | exact LeO.none _
      | refine LeO.ite ?_ ?_
      | refine LeO.bind ?_ (fun _ => ?_)
theorem sobriquetlaw02_WellForms.mono : ∀ a0 a1 a2 k, LeO (sobriquetlaw02_WellForms.f k a0 a1 a2) (sobriquetlaw02_WellForms.f (k + 1) a0 a1 a2) := by
  intro a0 a1 a2 k
  obtain ⟨ih0, ih1⟩ := sobriquetlaw02_WellForms.mono_l k
  unfold sobriquetlaw02_WellForms.f
  repeat' first
      | (with_reducible exact ih0 _ _ _ _ _)
      | (with_reducible exact ih1 _ _)
      | (with_reducible exact sobriquetlaw02_wakes.mono _)
      | (with_reducible exact sobriquetref01_Wrap.mono _ _ _ _ _)
      | (with_reducible exact well_Check.mono _ _)
      | (with_reducible exact LeO.refl _)
      | (with_reducible exact LeO.none _)
      | (with_reducible refine LeO.ite ?_ ?_)
      | (with_reducible refine LeO.bind ?_ (fun _ => ?_))
      | exact ih0 _ _ _ _ _
      | exact ih1 _ _
      | exact sobriquetlaw02_wakes.mono _
      | exact sobriquetref01_Wrap.mono _ _ _ _ _
      | exact well_Check.mono _ _
      | exact LeO.none _
      | refine LeO.ite ?_ ?_
      | refine LeO.bind ?_ (fun _ => ?_)
set_option maxHeartbeats 8000000 in
set_option maxRecDepth 100000 in
theorem sobriquetlaw02_WellForms.calls (k : Nat) (a0 : Int) (a1 : Int) (a2 : Bool) (r : Bool) (w : World) (h : sobriquetlaw02_WellForms.f k a0 a1 a2 = some r) (hrt0 : r = true) :
    Calls Try.prog 7 #[.int .i64 a0, .int .i64 a1, .bool a2] w fun e w' => e = .returned (.bool r) ∧ Below w.heap.size w w' := by
  have HB := Aside0.mk (Below.refl w.heap.size w)
  have hrt := Aside0.mk hrt0
  clear hrt0
  have H : ((sobriquetref01_Wrap.f k (wrap64 (Int.tmod (IntKind.u64.wrap (a0)) 4)) (wrap64 (Int.tmod (IntKind.u64.wrap (a1)) 60)) a2 ([] : List Int)).bind fun t166 => ((well_Check.f k t166).bind fun bt169 => (if (wrap64 (Int.tmod (IntKind.u64.wrap (a0)) 4)) = 0 then (sobriquetlaw02_WellForms.j0 k (wrap64 (Int.tmod (IntKind.u64.wrap (a0)) 4)) (wrap64 (Int.tmod (IntKind.u64.wrap (a1)) 60)) a2 bt169.2 ((wrap64 (Int.tmod (IntKind.u64.wrap (a1)) 60)) == 0)) else (sobriquetlaw02_WellForms.j0 k (wrap64 (Int.tmod (IntKind.u64.wrap (a0)) 4)) (wrap64 (Int.tmod (IntKind.u64.wrap (a1)) 60)) a2 bt169.2 false)))) = some r := h
  clear h
  replace H := Option.bind_eq_some_iff.mp H
  obtain ⟨t166, A40, H⟩ := H
  replace H : ((well_Check.f k t166).bind fun bt169 => (if (wrap64 (Int.tmod (IntKind.u64.wrap (a0)) 4)) = 0 then (sobriquetlaw02_WellForms.j0 k (wrap64 (Int.tmod (IntKind.u64.wrap (a0)) 4)) (wrap64 (Int.tmod (IntKind.u64.wrap (a1)) 60)) a2 bt169.2 ((wrap64 (Int.tmod (IntKind.u64.wrap (a1)) 60)) == 0)) else (sobriquetlaw02_WellForms.j0 k (wrap64 (Int.tmod (IntKind.u64.wrap (a0)) 4)) (wrap64 (Int.tmod (IntKind.u64.wrap (a1)) 60)) a2 bt169.2 false))) = some r := H
  have A4 := Aside0.mk A40
  clear A40
  replace H := Option.bind_eq_some_iff.mp H
  obtain ⟨⟨t169, t170⟩, A50, H⟩ := H
  replace H : (if (wrap64 (Int.tmod (IntKind.u64.wrap (a0)) 4)) = 0 then (sobriquetlaw02_WellForms.j0 k (wrap64 (Int.tmod (IntKind.u64.wrap (a0)) 4)) (wrap64 (Int.tmod (IntKind.u64.wrap (a1)) 60)) a2 t170 ((wrap64 (Int.tmod (IntKind.u64.wrap (a1)) 60)) == 0)) else (sobriquetlaw02_WellForms.j0 k (wrap64 (Int.tmod (IntKind.u64.wrap (a0)) 4)) (wrap64 (Int.tmod (IntKind.u64.wrap (a1)) 60)) a2 t170 false)) = some r := H
  have A5 := Aside0.mk A50
  clear A50
  have HC6 := Aside0.mk H
  clear H
  go_enter Try.func7, Try.ntmps7
  go_upto_region 3 with (first | ((with_reducible refine gate_callee (f := 20) rfl ?_); refine goesL_ (some 21) rfl rfl Try.func20 (by kernel_rfl) rfl #[.int .i64 (wrap64 (Int.tmod (IntKind.u64.wrap (a0)) 4)), .int .i64 (wrap64 (Int.tmod (IntKind.u64.wrap (a1)) 60)), .bool a2, .slice none 0 0] rfl (by (try simp only [List.map_toArray, List.map_cons, List.map_nil]); first | done | rfl | (simp only [List.length_drop, List.length_take]; rfl)) ?_; (refine (sobriquetref01_Wrap.calls k (wrap64 (Int.tmod (IntKind.u64.wrap (a0)) 4)) (wrap64 (Int.tmod (IntKind.u64.wrap (a1)) 60)) a2 _ _ ([] : List Int) t166 _ ?side1 ?side2 A4.out).mono ?_); (case side1 => exact Kd.C_nil _ _); (case side2 => exact Nat.le_refl _); rintro e w7 ⟨v167, rfl, ho0, hb⟩; refine ⟨_, rfl, ?_⟩; have n0_ := Aside0.mk (Kd.R_lower ho0 (below_size (by repeat (first | (with_reducible first | exact HB.out | apply below_alloc | apply pw_below_drewN | apply below_drew1) | exact HB.out)))); have n1_ := Aside0.mk (below_step (by repeat (first | (with_reducible first | exact HB.out | apply below_alloc | apply pw_below_drewN | apply below_drew1) | exact HB.out)) hb); clear HB; have HO168 := n0_; have HB := n1_; clear n0_ n1_; (try clear hb); (try clear hb2); (try clear hk); (try clear hi); (try clear ho0); obtain ⟨Ao8, co8, eo8⟩ := Kd.R_slice HO168.out; subst eo8) | ((with_reducible refine gate_callee (f := 11) rfl ?_); refine goesL_ (some 22) rfl rfl Try.func11 (by kernel_rfl) rfl #[.slice Ao8 t166.length co8] rfl (by (try simp only [List.map_toArray, List.map_cons, List.map_nil]); first | done | rfl | (simp only [List.length_drop, List.length_take]; rfl)) ?_; (with_reducible refine (well_Check.calls k _ _ t166 t169 t170 _ ?side1 ?side2 A5.out).mono ?_); (case side1 => repeat (first | exact (Kd.R_reads' HO168.out).2.2 | (with_reducible refine Kd.C_alloc ?_ _) | (with_reducible refine Kd.C_drewN ?_ _) | (with_reducible refine Kd.C_drew ?_))); (case side2 => exact (Kd.R_reads' HO168.out).2.1); rintro e w9 ⟨rfl, hb⟩; refine ⟨_, rfl, ?_⟩; have n0_ := Aside0.mk (Kd.R_below (by (with_reducible repeat (first | apply Kd.R_alloc | apply Kd.R_drewN | apply Kd.R_drew)); exact HO168.out) hb); have n1_ := Aside0.mk (below_step (by repeat (first | (with_reducible first | exact HB.out | apply below_alloc | apply pw_below_drewN | apply below_drew1) | exact HB.out)) hb); clear HO168; clear HB; have HO168 := n0_; have HB := n1_; clear n0_ n1_; (try clear hb); (try clear hb2); (try clear hk); (try clear hi)))
  (try simp only [Act.put, List.setIfInBounds_toArray, List.set_cons_zero, List.set_cons_succ])
  go_cut [25] (fun v25 wc => ∃ (kq : Nat) (x25_5 : Bool), v25 = .bool x25_5 ∧ Aside0 (sobriquetlaw02_WellForms.j0 kq (wrap64 (Int.tmod (IntKind.u64.wrap (a0)) 4)) (wrap64 (Int.tmod (IntKind.u64.wrap (a1)) 60)) a2 t170 x25_5 = some r) ∧ Aside0 (kq ≤ k) ∧ Aside0 (Below w.heap.size w wc))
  case first =>
    have H := HC6.out
    clear HC6
    by_cases c10 : (wrap64 (Int.tmod (IntKind.u64.wrap (a0)) 4)) = 0
    · rw [if_pos c10] at H
      have c10b0 : ((wrap64 (Int.tmod (IntKind.u64.wrap (a0)) 4)) == 0) = true := beq_iff_eq.mpr c10
      have c10b1 : ((wrap64 (Int.tmod (IntKind.u64.wrap (a0)) 4)) != 0) = false := bne_eq_false_iff_eq.mpr c10
      clear c10
      (first | rw [c10b0] | (simp only [i64_w, i32_w]; rw [c10b0]) | skip)
      have H' := Aside0.mk H
      clear H
      go_wp2
      go_meet
      case rel => exact ⟨_, (((wrap64 (Int.tmod (IntKind.u64.wrap (a1)) 60)) == 0)), (by first | rfl | (simp; done) | (simp [*]; done)), H', ⟨by first | omega | exact Nat.le_refl _⟩, ⟨by repeat (first | (with_reducible first | exact HB.out | apply below_alloc | apply pw_below_drewN | apply below_drew1) | exact HB.out)⟩⟩
    · rw [if_neg c10] at H
      have c10b0 : ((wrap64 (Int.tmod (IntKind.u64.wrap (a0)) 4)) == 0) = false := beq_eq_false_iff_ne.mpr c10
      have c10b1 : ((wrap64 (Int.tmod (IntKind.u64.wrap (a0)) 4)) != 0) = true := bne_iff_ne.mpr c10
      (first | rw [c10b0] | (simp only [i64_w, i32_w]; rw [c10b0]) | skip)
      have H' := Aside0.mk H
      clear H
      go_wp2
      go_meet
      case rel => exact ⟨_, (false), (by first | rfl | (simp; done) | (simp [*]; done)), H', ⟨by first | omega | exact Nat.le_refl _⟩, ⟨by repeat (first | (with_reducible first | exact HB.out | apply below_alloc | apply pw_below_drewN | apply below_drew1) | exact HB.out)⟩⟩
  case rest =>
    clear HC6
    try clear c1
    try clear c2
    try clear p2
    try clear p6
    try clear c7
    try clear c10
    try clear c10b0
    try clear c10b1
    obtain ⟨kq, x25_5, rfl, HA, HJ5, HB⟩ := hcut
    cases kq with
    | zero => exact absurd HA.out (by simp [sobriquetlaw02_WellForms.j0])
    | succ kj5 =>
      have H := HA.out
      clear HA
      simp only [sobriquetlaw02_WellForms.j0] at H
      by_cases c11 : x25_5 = true
      · subst c11
        have H1 : (if t170 = 3 then ((sobriquetlaw02_wakes.f kj5).bind fun t171 => (some t171)) else (some false)) = some r := by rw [if_pos rfl] at H; exact H
        clear H
        have H := H1
        clear H1
        by_cases c12 : t170 = 3
        · rw [if_pos c12] at H
          have c12b0 : (t170 == 3) = true := beq_iff_eq.mpr c12
          have c12b1 : (t170 != 3) = false := bne_eq_false_iff_eq.mpr c12
          clear c12
          replace H := Option.bind_eq_some_iff.mp H
          obtain ⟨t171, A130, H⟩ := H
          replace H : (some t171) = some r := H
          have A13 := Aside0.mk A130
          clear A130
          obtain rfl := Option.some.inj H
          go_wp2_with (first | (go_at_call 16; (with_reducible refine (sobriquetlaw02_wakes.calls kj5  t171 _ A13.out (by first | exact hrt.out | rfl)).mono ?_); rintro e w14 ⟨rfl, hb⟩; have n0_ := Aside0.mk (below_step (by repeat (first | (with_reducible first | exact HB.out | apply below_alloc | apply pw_below_drewN | apply below_drew1) | exact HB.out)) hb); clear HB; have HB := n0_; clear n0_; (try clear hb); (try clear hb2); (try clear hk); (try clear hi)))
          go_ret
          exact ⟨by first | rfl | (simp [errW_none, errW_some] <;> rfl) | (simp [*, errW_none, errW_some] <;> rfl), by repeat (first | (with_reducible first | exact HB.out | apply below_alloc | apply pw_below_drewN | apply below_drew1) | exact HB.out)⟩
        · rw [if_neg c12] at H
          have c12b0 : (t170 == 3) = false := beq_eq_false_iff_ne.mpr c12
          have c12b1 : (t170 != 3) = true := bne_iff_ne.mpr c12
          exact absurd ((Option.some.inj H).trans hrt.out) (by decide)
      · replace c11 := Bool.eq_false_iff.mpr c11
        subst c11
        have H1 : (if (wrap64 (Int.tmod (IntKind.u64.wrap (a0)) 4)) = 0 then (if (wrap64 (Int.tmod (IntKind.u64.wrap (a1)) 60)) < 31 then (if (wrap64 (Int.tmod (IntKind.u64.wrap (a1)) 60)) = 8 then (sobriquetlaw02_WellForms.j1 kj5 t170 (a2 != true)) else (if (wrap64 (Int.tmod (IntKind.u64.wrap (a1)) 60)) = 11 then (sobriquetlaw02_WellForms.j1 kj5 t170 (a2 != true)) else (if (wrap64 (Int.tmod (IntKind.u64.wrap (a1)) 60)) = 16 then (sobriquetlaw02_WellForms.j1 kj5 t170 (a2 != true)) else (sobriquetlaw02_WellForms.j1 kj5 t170 (a2 != ((wrap64 (Int.tmod (IntKind.u64.wrap (a1)) 60)) == 17)))))) else (sobriquetlaw02_WellForms.j1 kj5 t170 false)) else (sobriquetlaw02_WellForms.j1 kj5 t170 false)) = some r := by rw [if_neg (show ¬ (false = true) by decide)] at H; exact H
        clear H
        have H := H1
        clear H1
        have HC15 := Aside0.mk H
        clear H
        go_upto_region 5 with (fail)
        go_cut [37] (fun v37 wc => ∃ (kq : Nat) (x37_14 : Bool), v37 = .bool x37_14 ∧ Aside0 (sobriquetlaw02_WellForms.j1 kq t170 x37_14 = some r) ∧ Aside0 (kq ≤ kj5) ∧ Aside0 (Below w.heap.size w wc))
        case first =>
          have H := HC15.out
          clear HC15
          by_cases c16 : (wrap64 (Int.tmod (IntKind.u64.wrap (a0)) 4)) = 0
          · rw [if_pos c16] at H
            have c16b0 : ((wrap64 (Int.tmod (IntKind.u64.wrap (a0)) 4)) == 0) = true := beq_iff_eq.mpr c16
            have c16b1 : ((wrap64 (Int.tmod (IntKind.u64.wrap (a0)) 4)) != 0) = false := bne_eq_false_iff_eq.mpr c16
            clear c16
            (first | rw [c16b0] | (simp only [i64_w, i32_w]; rw [c16b0]) | skip)
            by_cases c17 : (wrap64 (Int.tmod (IntKind.u64.wrap (a1)) 60)) < 31
            · rw [if_pos c17] at H
              have c17b0 : decide ((wrap64 (Int.tmod (IntKind.u64.wrap (a1)) 60)) < 31) = true := decide_eq_true c17
              clear c17
              by_cases c18 : (wrap64 (Int.tmod (IntKind.u64.wrap (a1)) 60)) = 8
              · rw [if_pos c18] at H
                have c18b0 : ((wrap64 (Int.tmod (IntKind.u64.wrap (a1)) 60)) == 8) = true := beq_iff_eq.mpr c18
                have c18b1 : ((wrap64 (Int.tmod (IntKind.u64.wrap (a1)) 60)) != 8) = false := bne_eq_false_iff_eq.mpr c18
                clear c18
                have H' := Aside0.mk H
                clear H
                go_wp2
                go_meet
                case rel => exact ⟨_, ((a2 != true)), (by first | rfl | (simp; done) | (simp [*]; done)), H', ⟨by have := HJ5.out; first | omega | exact Nat.le_refl _⟩, ⟨by repeat (first | (with_reducible first | exact HB.out | apply below_alloc | apply pw_below_drewN | apply below_drew1) | exact HB.out)⟩⟩
              · rw [if_neg c18] at H
                have c18b0 : ((wrap64 (Int.tmod (IntKind.u64.wrap (a1)) 60)) == 8) = false := beq_eq_false_iff_ne.mpr c18
                have c18b1 : ((wrap64 (Int.tmod (IntKind.u64.wrap (a1)) 60)) != 8) = true := bne_iff_ne.mpr c18
                by_cases c19 : (wrap64 (Int.tmod (IntKind.u64.wrap (a1)) 60)) = 11
                · rw [if_pos c19] at H
                  have c19b0 : ((wrap64 (Int.tmod (IntKind.u64.wrap (a1)) 60)) == 11) = true := beq_iff_eq.mpr c19
                  have c19b1 : ((wrap64 (Int.tmod (IntKind.u64.wrap (a1)) 60)) != 11) = false := bne_eq_false_iff_eq.mpr c19
                  clear c19
                  have H' := Aside0.mk H
                  clear H
                  go_wp2
                  go_meet
                  case rel => exact ⟨_, ((a2 != true)), (by first | rfl | (simp; done) | (simp [*]; done)), H', ⟨by have := HJ5.out; first | omega | exact Nat.le_refl _⟩, ⟨by repeat (first | (with_reducible first | exact HB.out | apply below_alloc | apply pw_below_drewN | apply below_drew1) | exact HB.out)⟩⟩
                · rw [if_neg c19] at H
                  have c19b0 : ((wrap64 (Int.tmod (IntKind.u64.wrap (a1)) 60)) == 11) = false := beq_eq_false_iff_ne.mpr c19
                  have c19b1 : ((wrap64 (Int.tmod (IntKind.u64.wrap (a1)) 60)) != 11) = true := bne_iff_ne.mpr c19
                  by_cases c20 : (wrap64 (Int.tmod (IntKind.u64.wrap (a1)) 60)) = 16
                  · rw [if_pos c20] at H
                    have c20b0 : ((wrap64 (Int.tmod (IntKind.u64.wrap (a1)) 60)) == 16) = true := beq_iff_eq.mpr c20
                    have c20b1 : ((wrap64 (Int.tmod (IntKind.u64.wrap (a1)) 60)) != 16) = false := bne_eq_false_iff_eq.mpr c20
                    clear c20
                    have H' := Aside0.mk H
                    clear H
                    go_wp2
                    go_meet
                    case rel => exact ⟨_, ((a2 != true)), (by first | rfl | (simp; done) | (simp [*]; done)), H', ⟨by have := HJ5.out; first | omega | exact Nat.le_refl _⟩, ⟨by repeat (first | (with_reducible first | exact HB.out | apply below_alloc | apply pw_below_drewN | apply below_drew1) | exact HB.out)⟩⟩
                  · rw [if_neg c20] at H
                    have c20b0 : ((wrap64 (Int.tmod (IntKind.u64.wrap (a1)) 60)) == 16) = false := beq_eq_false_iff_ne.mpr c20
                    have c20b1 : ((wrap64 (Int.tmod (IntKind.u64.wrap (a1)) 60)) != 16) = true := bne_iff_ne.mpr c20
                    have H' := Aside0.mk H
                    clear H
                    go_wp2
                    go_meet
                    case rel => exact ⟨_, ((a2 != ((wrap64 (Int.tmod (IntKind.u64.wrap (a1)) 60)) == 17))), (by first | rfl | (simp; done) | (simp [*]; done)), H', ⟨by have := HJ5.out; first | omega | exact Nat.le_refl _⟩, ⟨by repeat (first | (with_reducible first | exact HB.out | apply below_alloc | apply pw_below_drewN | apply below_drew1) | exact HB.out)⟩⟩
            · rw [if_neg c17] at H
              have c17b0 : decide ((wrap64 (Int.tmod (IntKind.u64.wrap (a1)) 60)) < 31) = false := decide_eq_false c17
              clear c17
              have H' := Aside0.mk H
              clear H
              go_wp2
              go_meet
              case rel => exact ⟨_, (false), (by first | rfl | (simp; done) | (simp [*]; done)), H', ⟨by have := HJ5.out; first | omega | exact Nat.le_refl _⟩, ⟨by repeat (first | (with_reducible first | exact HB.out | apply below_alloc | apply pw_below_drewN | apply below_drew1) | exact HB.out)⟩⟩
          · rw [if_neg c16] at H
            have c16b0 : ((wrap64 (Int.tmod (IntKind.u64.wrap (a0)) 4)) == 0) = false := beq_eq_false_iff_ne.mpr c16
            have c16b1 : ((wrap64 (Int.tmod (IntKind.u64.wrap (a0)) 4)) != 0) = true := bne_iff_ne.mpr c16
            (first | rw [c16b0] | (simp only [i64_w, i32_w]; rw [c16b0]) | skip)
            have H' := Aside0.mk H
            clear H
            go_wp2
            go_meet
            case rel => exact ⟨_, (false), (by first | rfl | (simp; done) | (simp [*]; done)), H', ⟨by have := HJ5.out; first | omega | exact Nat.le_refl _⟩, ⟨by repeat (first | (with_reducible first | exact HB.out | apply below_alloc | apply pw_below_drewN | apply below_drew1) | exact HB.out)⟩⟩
        case rest =>
          clear HC15
          try clear c1
          try clear c2
          try clear p2
          try clear p6
          try clear c7
          try clear c10
          try clear c10b0
          try clear c10b1
          try clear c11
          try clear c12
          try clear c12b0
          try clear c12b1
          try clear c16
          try clear c16b0
          try clear c16b1
          try clear c17
          try clear c17b0
          try clear c18
          try clear c18b0
          try clear c18b1
          try clear c19
          try clear c19b0
          try clear c19b1
          try clear c20
          try clear c20b0
          try clear c20b1
          try clear p2
          try clear p6
          obtain ⟨kq, x37_14, rfl, HA, HJ14, HB⟩ := hcut
          cases kq with
          | zero => exact absurd HA.out (by simp [sobriquetlaw02_WellForms.j1])
          | succ kj14 =>
            have H := HA.out
            clear HA
            simp only [sobriquetlaw02_WellForms.j1] at H
            by_cases c21 : x37_14 = true
            · subst c21
              have H1 : (if t170 = 7 then ((sobriquetlaw02_wakes.f kj14).bind fun t172 => (some t172)) else (some false)) = some r := by rw [if_pos rfl] at H; exact H
              clear H
              have H := H1
              clear H1
              by_cases c22 : t170 = 7
              · rw [if_pos c22] at H
                have c22b0 : (t170 == 7) = true := beq_iff_eq.mpr c22
                have c22b1 : (t170 != 7) = false := bne_eq_false_iff_eq.mpr c22
                clear c22
                replace H := Option.bind_eq_some_iff.mp H
                obtain ⟨t172, A230, H⟩ := H
                replace H : (some t172) = some r := H
                have A23 := Aside0.mk A230
                clear A230
                obtain rfl := Option.some.inj H
                go_wp2_with (first | (go_at_call 16; (with_reducible refine (sobriquetlaw02_wakes.calls kj14  t172 _ A23.out (by first | exact hrt.out | rfl)).mono ?_); rintro e w24 ⟨rfl, hb⟩; have n0_ := Aside0.mk (below_step (by repeat (first | (with_reducible first | exact HB.out | apply below_alloc | apply pw_below_drewN | apply below_drew1) | exact HB.out)) hb); clear HB; have HB := n0_; clear n0_; (try clear hb); (try clear hb2); (try clear hk); (try clear hi)))
                go_ret
                exact ⟨by first | rfl | (simp [errW_none, errW_some] <;> rfl) | (simp [*, errW_none, errW_some] <;> rfl), by repeat (first | (with_reducible first | exact HB.out | apply below_alloc | apply pw_below_drewN | apply below_drew1) | exact HB.out)⟩
              · rw [if_neg c22] at H
                have c22b0 : (t170 == 7) = false := beq_eq_false_iff_ne.mpr c22
                have c22b1 : (t170 != 7) = true := bne_iff_ne.mpr c22
                exact absurd ((Option.some.inj H).trans hrt.out) (by decide)
            · replace c21 := Bool.eq_false_iff.mpr c21
              subst c21
              have H1 : (if t170 = 0 then ((sobriquetlaw02_wakes.f kj14).bind fun t173 => (some t173)) else (some false)) = some r := by rw [if_neg (show ¬ (false = true) by decide)] at H; exact H
              clear H
              have H := H1
              clear H1
              by_cases c25 : t170 = 0
              · rw [if_pos c25] at H
                have c25b0 : (t170 == 0) = true := beq_iff_eq.mpr c25
                have c25b1 : (t170 != 0) = false := bne_eq_false_iff_eq.mpr c25
                clear c25
                replace H := Option.bind_eq_some_iff.mp H
                obtain ⟨t173, A260, H⟩ := H
                replace H : (some t173) = some r := H
                have A26 := Aside0.mk A260
                clear A260
                obtain rfl := Option.some.inj H
                go_wp2_with (first | (go_at_call 16; (with_reducible refine (sobriquetlaw02_wakes.calls kj14  t173 _ A26.out (by first | exact hrt.out | rfl)).mono ?_); rintro e w27 ⟨rfl, hb⟩; have n0_ := Aside0.mk (below_step (by repeat (first | (with_reducible first | exact HB.out | apply below_alloc | apply pw_below_drewN | apply below_drew1) | exact HB.out)) hb); clear HB; have HB := n0_; clear n0_; (try clear hb); (try clear hb2); (try clear hk); (try clear hi)))
                go_ret
                exact ⟨by first | rfl | (simp [errW_none, errW_some] <;> rfl) | (simp [*, errW_none, errW_some] <;> rfl), by repeat (first | (with_reducible first | exact HB.out | apply below_alloc | apply pw_below_drewN | apply below_drew1) | exact HB.out)⟩
              · rw [if_neg c25] at H
                have c25b0 : (t170 == 0) = false := beq_eq_false_iff_ne.mpr c25
                have c25b1 : (t170 != 0) = true := bne_iff_ne.mpr c25
                exact absurd ((Option.some.inj H).trans hrt.out) (by decide)

/-- THE ONE PURE STATEMENT of sobriquetlaw02_WellForms: yours. -/
def sobriquetlaw02_WellForms.Pure : Prop := ∀ (a0 : Int) (a1 : Int) (a2 : Bool), (Lit.int .i64 a0).wf = true → (Lit.int .i64 a1).wf = true → ∃ k, sobriquetlaw02_WellForms.f k a0 a1 a2 = some true
theorem sobriquetlaw02_WellForms.walk (P : sobriquetlaw02_WellForms.Pure) (a0 : Int) (a1 : Int) (a2 : Bool) (w : World) (w0 : (Lit.int .i64 a0).wf = true) (w1 : (Lit.int .i64 a1).wf = true) :
    Calls Try.prog 7 #[.int .i64 a0, .int .i64 a1, .bool a2] w fun e w' => e = .returned (.bool true) ∧ Below w.heap.size w w' := by
  obtain ⟨k, h⟩ := P a0 a1 a2 w0 w1
  refine (sobriquetlaw02_WellForms.calls k a0 a1 a2 true w h rfl).mono ?_
  rintro e w' ⟨rfl, hd⟩
  exact ⟨rfl, hd⟩

end Go.Proofs.Ytogbpdmncnldhaa.MWellForms
