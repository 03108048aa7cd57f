-- Written by a program of this session over the translation; checked by Lean alone.
import Derived.Test.YtogbpdmncnldhaaMWellDeepx0
import Derived.Test.YtogbpdmncnldhaaMWellDeepx1
import Derived.Test.YtogbpdmncnldhaaMWellDeepx2
namespace Go.Proofs.Ytogbpdmncnldhaa.MWellDeep
open Go.RowKit Go.Proofs.YtogbpdmncnldhaaW.PrintWords Go.Proofs.YtogbpdmncnldhaaW.PrintLast Go.Proofs.YtogbpdmncnldhaaW.PrintMore
attribute [local go_sem] max2_int min2_int max_two min_two max_three min_three max_four min_four   -- for this text's walks alone
set_option linter.unusedVariables false
set_option linter.unusedSimpArgs false
set_option linter.unnecessarySimpa false

/-! ### sobriquetlaw02_WellDeep: function 5 -/
mutual
def sobriquetlaw02_WellDeep.j0 : Nat → Int → Int → Int → Option (Bool)
  | 0, _, _, _ => none
  | k + 1, x0, x1, x5 => sobriquetlaw02_WellDeep.l0 k x0 x1 x5 ([] : List Int) 0
def sobriquetlaw02_WellDeep.l0 : Nat → Int → Int → Int → List Int → Int → Option (Bool)
  | 0, _, _, _, _, _ => none
  | k + 1, x0, x1, x5, x6, x7 => if x7 < x0 then ((sobriquetref01_Wrap.f k x1 x5 true x6).bind fun t166 => (sobriquetlaw02_WellDeep.l0 k x0 x1 x5 t166 (wrap64 (x7 + 1)))) else ((well_Check.f k x6).bind fun bt169 => (if x0 ≤ 32 then ((well_Depth.f k x6).bind fun bt171 => (if bt169.2 = 0 then (if bt169.1 = 0 then (if bt171.2 = 0 then (if bt171.1 = x0 then ((sobriquetlaw02_wakes.f k).bind fun t173 => (some t173)) else (some false)) else (some false)) else (some false)) else (some false))) else (sobriquetlaw02_WellDeep.l1 k x6 bt169.1 bt169.2 0 0)))
def sobriquetlaw02_WellDeep.l1 : Nat → List Int → Int → Int → Int → Int → Option (Bool)
  | 0, _, _, _, _, _ => none
  | k + 1, x6, x8, x9, x12, x13 => if x13 < 32 then (if 0 ≤ x12 then (if x12 ≤ (x6.length : Int) then ((sobriquetref01_Read.f k (x6.drop (x12 : Int).toNat)).bind fun bt179 => (if bt179.2.2.2.2.2 = 0 then (sobriquetlaw02_WellDeep.l1 k x6 x8 x9 (wrap64 (x12 + bt179.2.2.2.2.1)) (wrap64 (x13 + 1))) else (some false))) else (none)) else (none)) else (if x9 = 6 then (if x8 = x12 then ((sobriquetlaw02_wakes.f k).bind fun t174 => (some t174)) else (some false)) else (some false))
end
def sobriquetlaw02_WellDeep.f (k : Nat) (a0 : Int) (a1 : Int) : Option (Bool) := if (wrap64 (Int.tmod (IntKind.u64.wrap (a1)) 4)) > 0 then (sobriquetlaw02_WellDeep.j0 k (wrap64 (1 + (wrap64 (Int.tmod (IntKind.u64.wrap (a0)) 40)))) (wrap64 (Int.tmod (IntKind.u64.wrap (a1)) 4)) 5) else (sobriquetlaw02_WellDeep.j0 k (wrap64 (1 + (wrap64 (Int.tmod (IntKind.u64.wrap (a0)) 40)))) (wrap64 (Int.tmod (IntKind.u64.wrap (a1)) 4)) 16)
theorem sobriquetlaw02_WellDeep.mono_l : ∀ k, (∀ y0 y1 y2, LeO (sobriquetlaw02_WellDeep.j0 k y0 y1 y2) (sobriquetlaw02_WellDeep.j0 (k + 1) y0 y1 y2)) ∧ (∀ y0 y1 y2 y3 y4, LeO (sobriquetlaw02_WellDeep.l0 k y0 y1 y2 y3 y4) (sobriquetlaw02_WellDeep.l0 (k + 1) y0 y1 y2 y3 y4)) ∧ (∀ y0 y1 y2 y3 y4, LeO (sobriquetlaw02_WellDeep.l1 k y0 y1 y2 y3 y4) (sobriquetlaw02_WellDeep.l1 (k + 1) y0 y1 y2 y3 y4))
  | 0 => ⟨fun _ _ _ r h => by simp [sobriquetlaw02_WellDeep.j0] at h, fun _ _ _ _ _ r h => by simp [sobriquetlaw02_WellDeep.l0] at h, fun _ _ _ _ _ r h => by simp [sobriquetlaw02_WellDeep.l1] at h⟩
  | k + 1 => by
    obtain ⟨ih0, ih1, ih2⟩ := sobriquetlaw02_WellDeep.mono_l k
    refine ⟨?_, ?_, ?_⟩
    · intro y0 y1 y2
      unfold sobriquetlaw02_WellDeep.j0
      repeat' first
      | (with_reducible exact ih0 _ _ _)
      | (with_reducible exact ih1 _ _ _ _ _)
      | (with_reducible exact ih2 _ _ _ _ _)
      | (with_reducible exact sobriquetlaw02_wakes.mono _)
      | (with_reducible exact sobriquetref01_Read.mono _ _)
      | (with_reducible exact sobriquetref01_Wrap.mono _ _ _ _ _)
      | (with_reducible exact well_Check.mono _ _)
      | (with_reducible exact well_Depth.mono _ _)
      | (with_reducible exact LeO.refl _)
      | (with_reducible exact LeO.none _)
      | (with_reducible refine LeO.ite ?_ ?_)
      | (with_reducible refine LeO.bind ?_ (fun _ => ?_))
      | exact ih0 _ _ _
      | exact ih1 _ _ _ _ _
      | exact ih2 _ _ _ _ _
      | exact sobriquetlaw02_wakes.mono _
      | exact sobriquetref01_Read.mono _ _
      | exact sobriquetref01_Wrap.mono _ _ _ _ _
      | exact well_Check.mono _ _
      | exact well_Depth.mono _ _
      | exact LeO.none _
      | refine LeO.ite ?_ ?_
      | refine LeO.bind ?_ (fun _ => ?_)
    · intro y0 y1 y2 y3 y4
      unfold sobriquetlaw02_WellDeep.l0
      repeat' first
      | (with_reducible exact ih0 _ _ _)
      | (with_reducible exact ih1 _ _ _ _ _)
      | (with_reducible exact ih2 _ _ _ _ _)
      | (with_reducible exact sobriquetlaw02_wakes.mono _)
      | (with_reducible exact sobriquetref01_Read.mono _ _)
      | (with_reducible exact sobriquetref01_Wrap.mono _ _ _ _ _)
      | (with_reducible exact well_Check.mono _ _)
      | (with_reducible exact well_Depth.mono _ _)
      | (with_reducible exact LeO.refl _)
      | (with_reducible exact LeO.none _)
      | (with_reducible refine LeO.ite ?_ ?_)
      | (with_reducible refine LeO.bind ?_ (fun _ => ?_))
      | exact ih0 _ _ _
      | exact ih1 _ _ _ _ _
      | exact ih2 _ _ _ _ _
      | exact sobriquetlaw02_wakes.mono _
      | exact sobriquetref01_Read.mono _ _
      | exact sobriquetref01_Wrap.mono _ _ _ _ _
      | exact well_Check.mono _ _
      | exact well_Depth.mono _ _
      | exact LeO.none _
      | refine LeO.ite ?_ ?_
      | refine LeO.bind ?_ (fun _ => ?_)
    · intro y0 y1 y2 y3 y4
      unfold sobriquetlaw02_WellDeep.l1
      repeat' first
      | (with_reducible exact ih0 _ _ _)
      | (with_reducible exact ih1 _ _ _ _ _)
      | (with_reducible exact ih2 _ _ _ _ _)
      | (with_reducible exact sobriquetlaw02_wakes.mono _)
      | (with_reducible exact sobriquetref01_Read.mono _ _)
      | (with_reducible exact sobriquetref01_Wrap.mono _ _ _ _ _)
      | (with_reducible exact well_Check.mono _ _)
      | (with_reducible exact well_Depth.mono _ _)
      | (with_reducible exact LeO.refl _)
      | (with_reducible exact LeO.none _)
      | (with_reducible refine LeO.ite ?_ ?_)
      | (with_reducible refine LeO.bind ?_ (fun _ => ?_))
      | exact ih0 _ _ _
      | exact ih1 _ _ _ _ _
      | exact ih2 _ _ _ _ _
      | exact sobriquetlaw02_wakes.mono _
      | exact sobriquetref01_Read.mono _ _
      | exact sobriquetref01_Wrap.mono _ _ _ _ _
      | exact well_Check.mono _ _
      | exact well_Depth.mono _ _
      | exact LeO.none _
      | refine LeO.ite ?_ ?_
      | refine LeO.bind ?_ (fun _ => ?_)
theorem sobriquetlaw02_WellDeep.mono : ∀ a0 a1 k, LeO (sobriquetlaw02_WellDeep.f k a0 a1) (sobriquetlaw02_WellDeep.f (k + 1) a0 a1) := by
  intro a0 a1 k
  obtain ⟨ih0, ih1, ih2⟩ := sobriquetlaw02_WellDeep.mono_l k
  unfold sobriquetlaw02_WellDeep.f
  repeat' first
      | (with_reducible exact ih0 _ _ _)
      | (with_reducible exact ih1 _ _ _ _ _)
      | (with_reducible exact ih2 _ _ _ _ _)
      | (with_reducible exact sobriquetlaw02_wakes.mono _)
      | (with_reducible exact sobriquetref01_Read.mono _ _)
      | (with_reducible exact sobriquetref01_Wrap.mono _ _ _ _ _)
      | (with_reducible exact well_Check.mono _ _)
      | (with_reducible exact well_Depth.mono _ _)
      | (with_reducible exact LeO.refl _)
      | (with_reducible exact LeO.none _)
      | (with_reducible refine LeO.ite ?_ ?_)
      | (with_reducible refine LeO.bind ?_ (fun _ => ?_))
      | exact ih0 _ _ _
      | exact ih1 _ _ _ _ _
      | exact ih2 _ _ _ _ _
      | exact sobriquetlaw02_wakes.mono _
      | exact sobriquetref01_Read.mono _ _
      | exact sobriquetref01_Wrap.mono _ _ _ _ _
      | exact well_Check.mono _ _
      | exact well_Depth.mono _ _
      | exact LeO.none _
      | refine LeO.ite ?_ ?_
      | refine LeO.bind ?_ (fun _ => ?_)
set_option maxHeartbeats 8000000 in
set_option maxRecDepth 100000 in
theorem sobriquetlaw02_WellDeep.calls (k : Nat) (a0 : Int) (a1 : Int) (r : Bool) (w : World) (h : sobriquetlaw02_WellDeep.f k a0 a1 = some r) (hrt0 : r = true) :
    Calls Try.prog 5 #[.int .i64 a0, .int .i64 a1] w fun e w' => e = .returned (.bool r) ∧ Below w.heap.size w w' := by
  have hu35 := Try.underlying35
  have HB := Aside0.mk (Below.refl w.heap.size w)
  have hrt := Aside0.mk hrt0
  clear hrt0
  have H : (if (wrap64 (Int.tmod (IntKind.u64.wrap (a1)) 4)) > 0 then (sobriquetlaw02_WellDeep.j0 k (wrap64 (1 + (wrap64 (Int.tmod (IntKind.u64.wrap (a0)) 40)))) (wrap64 (Int.tmod (IntKind.u64.wrap (a1)) 4)) 5) else (sobriquetlaw02_WellDeep.j0 k (wrap64 (1 + (wrap64 (Int.tmod (IntKind.u64.wrap (a0)) 40)))) (wrap64 (Int.tmod (IntKind.u64.wrap (a1)) 4)) 16)) = some r := h
  clear h
  have HC3 := Aside0.mk H
  clear H
  go_enter Try.func5, Try.ntmps5
  go_upto_if 26 with (fail)
  go_cut [5] (fun v5 wc => ∃ (kq : Nat) (x5_2 : Int), v5 = .int .i64 x5_2 ∧ Aside0 (sobriquetlaw02_WellDeep.j0 kq (wrap64 (1 + (wrap64 (Int.tmod (IntKind.u64.wrap (a0)) 40)))) (wrap64 (Int.tmod (IntKind.u64.wrap (a1)) 4)) x5_2 = some r) ∧ Aside0 (kq ≤ k) ∧ Aside0 (Below w.heap.size w wc))
  case first =>
    have H := HC3.out
    clear HC3
    by_cases c4 : (wrap64 (Int.tmod (IntKind.u64.wrap (a1)) 4)) > 0
    · rw [if_pos c4] at H
      have c4b0 : decide (0 < (wrap64 (Int.tmod (IntKind.u64.wrap (a1)) 4))) = true := decide_eq_true c4
      clear c4
      (first | rw [c4b0] | (simp only [i64_w, i32_w]; rw [c4b0]) | skip)
      have H' := Aside0.mk H
      clear H
      go_wp2
      go_meet
      case rel => exact ⟨_, (5), (by first | rfl | (simp; done) | (simp [*]; done)), H', ⟨by first | omega | exact Nat.le_refl _⟩, ⟨by repeat (first | (with_reducible first | exact HB.out | apply below_alloc | apply pw_below_drewN | apply below_drew1) | exact HB.out)⟩⟩
    · rw [if_neg c4] at H
      have c4b0 : decide (0 < (wrap64 (Int.tmod (IntKind.u64.wrap (a1)) 4))) = false := decide_eq_false c4
      clear c4
      (first | rw [c4b0] | (simp only [i64_w, i32_w]; rw [c4b0]) | skip)
      have H' := Aside0.mk H
      clear H
      go_wp2
      go_meet
      case rel => exact ⟨_, (16), (by first | rfl | (simp; done) | (simp [*]; done)), H', ⟨by first | omega | exact Nat.le_refl _⟩, ⟨by repeat (first | (with_reducible first | exact HB.out | apply below_alloc | apply pw_below_drewN | apply below_drew1) | exact HB.out)⟩⟩
  case rest =>
    clear HC3
    try clear p2
    try clear c4
    try clear c4b0
    obtain ⟨kq, x5_2, rfl, HA, HJ2, HB⟩ := hcut
    cases kq with
    | zero => exact absurd HA.out (by simp [sobriquetlaw02_WellDeep.j0])
    | succ kj2 =>
      have H := HA.out
      clear HA
      simp only [sobriquetlaw02_WellDeep.j0] at H
      have H' := Aside0.mk H
      clear H
      go_wp2
      go_loopg [6, 7] kj2 (fun kq v6 v7 w' => ∃ (x6_2 : List Int) (x7_2 : Int), v7 = .int .i64 x7_2 ∧ Aside0 (sobriquetlaw02_WellDeep.l0 kq (wrap64 (1 + (wrap64 (Int.tmod (IntKind.u64.wrap (a0)) 40)))) (wrap64 (Int.tmod (IntKind.u64.wrap (a1)) 4)) x5_2 x6_2 x7_2 = some r) ∧ Aside0 (kq ≤ kj2) ∧ Aside0 (Kd.R (Kd.int .u8) 5 w' w.heap.size (fun _ => True) v6 x6_2) ∧ Aside0 (Below w.heap.size w w'))
      case atStart => exact ⟨(([] : List Int)), (0), (by first | rfl | (simp; done) | (simp [*]; done)), H', ⟨Nat.le_refl _⟩, ⟨by first | exact Kd.R_nil _ _ _ _ _ | exact Kd.N_nil _ _ _ _ _ | exact Kd.V_nil _ _ _ _ _ | exact Kd.Q_nil _ _ _ _ _ | exact Kd.S_nil _ _ _ _ _⟩, ⟨by repeat (first | (with_reducible first | exact HB.out | apply below_alloc | apply pw_below_drewN | apply below_drew1) | exact HB.out)⟩⟩
      case round =>
        clear H'
        try clear p2
        try clear c4
        try clear c4b0
        try clear p2
        obtain ⟨x6_2, x7_2, rfl, HA, HK2, HO_6, HB⟩ := hrel
        cases gk with
        | zero => exact absurd HA.out (by simp [sobriquetlaw02_WellDeep.l0])
        | succ k2 =>
          have H := HA.out
          clear HA
          simp only [sobriquetlaw02_WellDeep.l0] at H
          by_cases c5 : x7_2 < (wrap64 (1 + (wrap64 (Int.tmod (IntKind.u64.wrap (a0)) 40))))
          · rw [if_pos c5] at H
            have c5b0 : decide (x7_2 < (wrap64 (1 + (wrap64 (Int.tmod (IntKind.u64.wrap (a0)) 40))))) = true := decide_eq_true c5
            clear c5
            replace H := Option.bind_eq_some_iff.mp H
            obtain ⟨t166, A60, H⟩ := H
            replace H : (sobriquetlaw02_WellDeep.l0 k2 (wrap64 (1 + (wrap64 (Int.tmod (IntKind.u64.wrap (a0)) 40)))) (wrap64 (Int.tmod (IntKind.u64.wrap (a1)) 4)) x5_2 t166 (wrap64 (x7_2 + 1))) = some r := H
            have A6 := Aside0.mk A60
            clear A60
            have H' := Aside0.mk H
            clear H
            obtain ⟨Ao7, co7, eo7⟩ := Kd.R_slice HO_6.out
            subst eo7
            go_wp2_with (first | ((with_reducible refine gate_callee (f := 20) rfl ?_); refine goesL_ (some 35) rfl rfl Try.func20 (by kernel_rfl) rfl #[.int .i64 (wrap64 (Int.tmod (IntKind.u64.wrap (a1)) 4)), .int .i64 x5_2, .bool true, .slice Ao7 x6_2.length co7] rfl (by (try simp only [List.map_toArray, List.map_cons, List.map_nil]); first | done | rfl | (simp only [List.length_drop, List.length_take]; rfl)) ?_; (with_reducible refine (sobriquetref01_Wrap.calls k2 (wrap64 (Int.tmod (IntKind.u64.wrap (a1)) 4)) x5_2 true _ _ x6_2 t166 _ ?side1 ?side2 A6.out).mono ?_); (case side1 => repeat (first | exact (Kd.R_reads' HO_6.out).2.2 | (with_reducible refine Kd.C_alloc ?_ _) | (with_reducible refine Kd.C_drewN ?_ _) | (with_reducible refine Kd.C_drew ?_))); (case side2 => exact (Kd.R_reads' HO_6.out).2.1); rintro e w8 ⟨v167, rfl, ho0, hb⟩; refine ⟨_, rfl, ?_⟩; have n0_ := Aside0.mk (Kd.R_elder' (by (with_reducible repeat (first | apply Kd.R_alloc | apply Kd.R_drewN | apply Kd.R_drew)); exact HO_6.out) (Kd.R_base ho0) hb); have n1_ := Aside0.mk (Kd.R_lower (Kd.R_new' ho0 (Kd.R_lt (by (with_reducible repeat (first | apply Kd.R_alloc | apply Kd.R_drewN | apply Kd.R_drew)); exact HO_6.out))) (below_size (by repeat (first | (with_reducible first | exact HB.out | apply below_alloc | apply pw_below_drewN | apply below_drew1) | exact HB.out)))); have n2_ := Aside0.mk (below_step (by repeat (first | (with_reducible first | exact HB.out | apply below_alloc | apply pw_below_drewN | apply below_drew1) | exact HB.out)) hb); clear HO_6; clear HB; have HO_6 := n0_; have HO168 := n1_; have HB := n2_; clear n0_ n1_ n2_; (try clear hb); (try clear hb2); (try clear hk); (try clear hi); (try clear ho0)))
            go_roundg k2
            case measure => have := HJ2.out; have := HK2.out; omega
            case rel => exact ⟨(t166), (wrap64 (x7_2 + 1)), (by first | rfl | (simp; done) | (simp [*]; done)), H', ⟨by have := HJ2.out; have := HK2.out; omega⟩, ⟨by (with_reducible repeat (first | apply Kd.R_alloc | apply Kd.R_drewN | apply Kd.R_drew)); exact Kd.R_mono HO168.out (fun _ hk => trivial)⟩, ⟨by repeat (first | (with_reducible first | exact HB.out | apply below_alloc | apply pw_below_drewN | apply below_drew1) | exact HB.out)⟩⟩
          · rw [if_neg c5] at H
            have c5b0 : decide (x7_2 < (wrap64 (1 + (wrap64 (Int.tmod (IntKind.u64.wrap (a0)) 40))))) = false := decide_eq_false c5
            clear c5
            replace H := Option.bind_eq_some_iff.mp H
            obtain ⟨⟨t169, t170⟩, A90, H⟩ := H
            replace H : (if (wrap64 (1 + (wrap64 (Int.tmod (IntKind.u64.wrap (a0)) 40)))) ≤ 32 then ((well_Depth.f k2 x6_2).bind fun bt171 => (if t170 = 0 then (if t169 = 0 then (if bt171.2 = 0 then (if bt171.1 = (wrap64 (1 + (wrap64 (Int.tmod (IntKind.u64.wrap (a0)) 40)))) then ((sobriquetlaw02_wakes.f k2).bind fun t173 => (some t173)) else (some false)) else (some false)) else (some false)) else (some false))) else (sobriquetlaw02_WellDeep.l1 k2 x6_2 t169 t170 0 0)) = some r := H
            have A9 := Aside0.mk A90
            clear A90
            by_cases c10 : (wrap64 (1 + (wrap64 (Int.tmod (IntKind.u64.wrap (a0)) 40)))) ≤ 32
            · rw [if_pos c10] at H
              have c10b0 : decide ((wrap64 (1 + (wrap64 (Int.tmod (IntKind.u64.wrap (a0)) 40)))) ≤ 32) = true := decide_eq_true c10
              clear c10
              replace H := Option.bind_eq_some_iff.mp H
              obtain ⟨⟨t171, t172⟩, A110, H⟩ := H
              replace H : (if t170 = 0 then (if t169 = 0 then (if t172 = 0 then (if t171 = (wrap64 (1 + (wrap64 (Int.tmod (IntKind.u64.wrap (a0)) 40)))) then ((sobriquetlaw02_wakes.f k2).bind fun t173 => (some t173)) else (some false)) else (some false)) else (some false)) else (some false)) = some r := H
              have A11 := Aside0.mk A110
              clear A110
              by_cases c12 : t170 = 0
              · rw [if_pos c12] at H
                have c12b0 : (t170 == 0) = true := beq_iff_eq.mpr c12
                have c12b1 : (t170 != 0) = false := bne_eq_false_iff_eq.mpr c12
                clear c12
                by_cases c13 : t169 = 0
                · rw [if_pos c13] at H
                  have c13b0 : (t169 == 0) = true := beq_iff_eq.mpr c13
                  have c13b1 : (t169 != 0) = false := bne_eq_false_iff_eq.mpr c13
                  clear c13
                  by_cases c14 : t172 = 0
                  · rw [if_pos c14] at H
                    have c14b0 : (t172 == 0) = true := beq_iff_eq.mpr c14
                    have c14b1 : (t172 != 0) = false := bne_eq_false_iff_eq.mpr c14
                    clear c14
                    by_cases c15 : t171 = (wrap64 (1 + (wrap64 (Int.tmod (IntKind.u64.wrap (a0)) 40))))
                    · rw [if_pos c15] at H
                      have c15b0 : (t171 == (wrap64 (1 + (wrap64 (Int.tmod (IntKind.u64.wrap (a0)) 40))))) = true := beq_iff_eq.mpr c15
                      have c15b1 : (t171 != (wrap64 (1 + (wrap64 (Int.tmod (IntKind.u64.wrap (a0)) 40))))) = false := bne_eq_false_iff_eq.mpr c15
                      clear c15
                      replace H := Option.bind_eq_some_iff.mp H
                      obtain ⟨t173, A160, H⟩ := H
                      replace H : (some t173) = some r := H
                      have A16 := Aside0.mk A160
                      clear A160
                      obtain rfl := Option.some.inj H
                      obtain ⟨Ao17, co17, eo17⟩ := Kd.R_slice HO_6.out
                      subst eo17
                      go_wp2_with (first | ((with_reducible refine gate_callee (f := 11) rfl ?_); refine goesL_ (some 38) rfl rfl Try.func11 (by kernel_rfl) rfl #[.slice Ao17 x6_2.length co17] rfl (by (try simp only [List.map_toArray, List.map_cons, List.map_nil]); first | done | rfl | (simp only [List.length_drop, List.length_take]; rfl)) ?_; (with_reducible refine (well_Check.calls k2 _ _ x6_2 t169 t170 _ ?side1 ?side2 A9.out).mono ?_); (case side1 => repeat (first | exact (Kd.R_reads' HO_6.out).2.2 | (with_reducible refine Kd.C_alloc ?_ _) | (with_reducible refine Kd.C_drewN ?_ _) | (with_reducible refine Kd.C_drew ?_))); (case side2 => exact (Kd.R_reads' HO_6.out).2.1); rintro e w18 ⟨rfl, hb⟩; refine ⟨_, rfl, ?_⟩; have n0_ := Aside0.mk (Kd.R_below (by (with_reducible repeat (first | apply Kd.R_alloc | apply Kd.R_drewN | apply Kd.R_drew)); exact HO_6.out) hb); have n1_ := Aside0.mk (below_step (by repeat (first | (with_reducible first | exact HB.out | apply below_alloc | apply pw_below_drewN | apply below_drew1) | exact HB.out)) hb); clear HO_6; clear HB; have HO_6 := n0_; have HB := n1_; clear n0_ n1_; (try clear hb); (try clear hb2); (try clear hk); (try clear hi)) | ((with_reducible refine gate_callee (f := 13) rfl ?_); refine goesL_ (some 45) rfl rfl Try.func13 (by kernel_rfl) rfl #[.slice Ao17 x6_2.length co17] rfl (by (try simp only [List.map_toArray, List.map_cons, List.map_nil]); first | done | rfl | (simp only [List.length_drop, List.length_take]; rfl)) ?_; (with_reducible refine (well_Depth.calls k2 _ _ x6_2 t171 t172 _ ?side1 ?side2 A11.out).mono ?_); (case side1 => repeat (first | exact (Kd.R_reads' HO_6.out).2.2 | (with_reducible refine Kd.C_alloc ?_ _) | (with_reducible refine Kd.C_drewN ?_ _) | (with_reducible refine Kd.C_drew ?_))); (case side2 => exact (Kd.R_reads' HO_6.out).2.1); rintro e w19 ⟨rfl, hb⟩; refine ⟨_, rfl, ?_⟩; have n0_ := Aside0.mk (Kd.R_below (by (with_reducible repeat (first | apply Kd.R_alloc | apply Kd.R_drewN | apply Kd.R_drew)); exact HO_6.out) hb); have n1_ := Aside0.mk (below_step (by repeat (first | (with_reducible first | exact HB.out | apply below_alloc | apply pw_below_drewN | apply below_drew1) | exact HB.out)) hb); clear HO_6; clear HB; have HO_6 := n0_; have HB := n1_; clear n0_ n1_; (try clear hb); (try clear hb2); (try clear hk); (try clear hi)) | (go_at_call 16; (with_reducible refine (sobriquetlaw02_wakes.calls k2  t173 _ A16.out (by first | exact hrt.out | rfl)).mono ?_); rintro e w20 ⟨rfl, hb⟩; have n0_ := Aside0.mk (Kd.R_below (by (with_reducible repeat (first | apply Kd.R_alloc | apply Kd.R_drewN | apply Kd.R_drew)); exact HO_6.out) hb); have n1_ := Aside0.mk (below_step (by repeat (first | (with_reducible first | exact HB.out | apply below_alloc | apply pw_below_drewN | apply below_drew1) | exact HB.out)) hb); clear HO_6; clear HB; have HO_6 := n0_; have HB := n1_; clear n0_ n1_; (try clear hb); (try clear hb2); (try clear hk); (try clear hi)))
                      go_ret
                      exact ⟨by first | rfl | (simp [errW_none, errW_some] <;> rfl) | (simp [*, errW_none, errW_some] <;> rfl), by repeat (first | (with_reducible first | exact HB.out | apply below_alloc | apply pw_below_drewN | apply below_drew1) | exact HB.out)⟩
                    · rw [if_neg c15] at H
                      have c15b0 : (t171 == (wrap64 (1 + (wrap64 (Int.tmod (IntKind.u64.wrap (a0)) 40))))) = false := beq_eq_false_iff_ne.mpr c15
                      have c15b1 : (t171 != (wrap64 (1 + (wrap64 (Int.tmod (IntKind.u64.wrap (a0)) 40))))) = true := bne_iff_ne.mpr c15
                      exact absurd ((Option.some.inj H).trans hrt.out) (by decide)
                  · rw [if_neg c14] at H
                    have c14b0 : (t172 == 0) = false := beq_eq_false_iff_ne.mpr c14
                    have c14b1 : (t172 != 0) = true := bne_iff_ne.mpr c14
                    exact absurd ((Option.some.inj H).trans hrt.out) (by decide)
                · rw [if_neg c13] at H
                  have c13b0 : (t169 == 0) = false := beq_eq_false_iff_ne.mpr c13
                  have c13b1 : (t169 != 0) = true := bne_iff_ne.mpr c13
                  exact absurd ((Option.some.inj H).trans hrt.out) (by decide)
              · rw [if_neg c12] at H
                have c12b0 : (t170 == 0) = false := beq_eq_false_iff_ne.mpr c12
                have c12b1 : (t170 != 0) = true := bne_iff_ne.mpr c12
                exact absurd ((Option.some.inj H).trans hrt.out) (by decide)
            · rw [if_neg c10] at H
              have c10b0 : decide ((wrap64 (1 + (wrap64 (Int.tmod (IntKind.u64.wrap (a0)) 40)))) ≤ 32) = false := decide_eq_false c10
              clear c10
              have H' := Aside0.mk H
              clear H
              obtain ⟨Ao21, co21, eo21⟩ := Kd.R_slice HO_6.out
              subst eo21
              go_wp2_with (first | ((with_reducible refine gate_callee (f := 11) rfl ?_); refine goesL_ (some 38) rfl rfl Try.func11 (by kernel_rfl) rfl #[.slice Ao21 x6_2.length co21] rfl (by (try simp only [List.map_toArray, List.map_cons, List.map_nil]); first | done | rfl | (simp only [List.length_drop, List.length_take]; rfl)) ?_; (with_reducible refine (well_Check.calls k2 _ _ x6_2 t169 t170 _ ?side1 ?side2 A9.out).mono ?_); (case side1 => repeat (first | exact (Kd.R_reads' HO_6.out).2.2 | (with_reducible refine Kd.C_alloc ?_ _) | (with_reducible refine Kd.C_drewN ?_ _) | (with_reducible refine Kd.C_drew ?_))); (case side2 => exact (Kd.R_reads' HO_6.out).2.1); rintro e w22 ⟨rfl, hb⟩; refine ⟨_, rfl, ?_⟩; have n0_ := Aside0.mk (Kd.R_below (by (with_reducible repeat (first | apply Kd.R_alloc | apply Kd.R_drewN | apply Kd.R_drew)); exact HO_6.out) hb); have n1_ := Aside0.mk (below_step (by repeat (first | (with_reducible first | exact HB.out | apply below_alloc | apply pw_below_drewN | apply below_drew1) | exact HB.out)) hb); clear HO_6; clear HB; have HO_6 := n0_; have HB := n1_; clear n0_ n1_; (try clear hb); (try clear hb2); (try clear hk); (try clear hi)))
              go_loopg [12, 13] k2 (fun kq v12 v13 w' => ∃ (x12_3 : Int) (x13_3 : Int), v12 = .int .i64 x12_3 ∧ v13 = .int .i64 x13_3 ∧ Aside0 (sobriquetlaw02_WellDeep.l1 kq x6_2 t169 t170 x12_3 x13_3 = some r) ∧ Aside0 (kq ≤ k2) ∧ Aside0 (Kd.R (Kd.int .u8) 5 w' w.heap.size (fun _ => True) (.slice Ao21 x6_2.length co21) x6_2) ∧ Aside0 (Below w.heap.size w w'))
              case atStart => exact ⟨(0), (0), (by first | rfl | (simp; done) | (simp [*]; done)), (by first | rfl | (simp; done) | (simp [*]; done)), H', ⟨Nat.le_refl _⟩, ⟨by (with_reducible repeat (first | apply Kd.R_alloc | apply Kd.R_drewN | apply Kd.R_drew)); exact HO_6.out⟩, ⟨by repeat (first | (with_reducible first | exact HB.out | apply below_alloc | apply pw_below_drewN | apply below_drew1) | exact HB.out)⟩⟩
              case round =>
                clear H'
                try clear c1
                try clear c2
                try clear p2
                try clear c4
                try clear c4b0
                try clear c5
                try clear c5b0
                try clear p6
                try clear c10
                try clear c10b0
                try clear c11
                try clear c12
                try clear c12b0
                try clear c12b1
                try clear c13
                try clear c13b0
                try clear c13b1
                try clear c14
                try clear c14b0
                try clear c14b1
                try clear c15
                try clear c15b0
                try clear c15b1
                try clear c20
                try clear p2
                obtain ⟨x12_3, x13_3, rfl, rfl, HA, HK3, HO_6, HB⟩ := hrel
                cases gk with
                | zero => exact absurd HA.out (by simp [sobriquetlaw02_WellDeep.l1])
                | succ k3 =>
                  have H := HA.out
                  clear HA
                  simp only [sobriquetlaw02_WellDeep.l1] at H
                  by_cases c23 : x13_3 < 32
                  · rw [if_pos c23] at H
                    have c23b0 : decide (x13_3 < 32) = true := decide_eq_true c23
                    clear c23
                    by_cases c24 : 0 ≤ x12_3
                    · rw [if_pos c24] at H
                      have c24b0 := eq_true c24
                      have c24b1 : decide (0 ≤ x12_3) = true := decide_eq_true c24
                      clear c24
                      by_cases c25 : x12_3 ≤ (x6_2.length : Int)
                      · rw [if_pos c25] at H
                        have c25b0 := eq_true c25
                        have c25b1 : decide (x12_3 ≤ (x6_2.length : Int)) = true := decide_eq_true c25
                        clear c25
                        obtain ⟨y175, hy175⟩ : ∃ y_ : List Int, y_ = (x6_2.drop (x12_3 : Int).toNat) := ⟨_, rfl⟩
                        replace H : ((sobriquetref01_Read.f k3 y175).bind fun bt179 => (if bt179.2.2.2.2.2 = 0 then (sobriquetlaw02_WellDeep.l1 k3 x6_2 t169 t170 (wrap64 (x12_3 + bt179.2.2.2.2.1)) (wrap64 (x13_3 + 1))) else (some false))) = some r := by first | (rw [hy175]; with_reducible exact H) | (have H2_ := (Option.bind_some _ _).symm.trans H; rw [hy175]; with_reducible exact H2_) | (have H2_ := (Option.bind_some _ _).symm.trans H; with_reducible exact H2_) | with_reducible exact H | (rw [hy175]; exact H) | exact H
                        have Ny175 := Aside0.mk hy175
                        clear hy175
                        replace H := Option.bind_eq_some_iff.mp H
                        obtain ⟨⟨t179, t180, t181, t182, t183, t184⟩, A260, H⟩ := H
                        replace H : (if t184 = 0 then (sobriquetlaw02_WellDeep.l1 k3 x6_2 t169 t170 (wrap64 (x12_3 + t183)) (wrap64 (x13_3 + 1))) else (some false)) = some r := H
                        have A26 := Aside0.mk A260
                        clear A260
                        by_cases c27 : t184 = 0
                        · rw [if_pos c27] at H
                          have c27b0 : (t184 == 0) = true := beq_iff_eq.mpr c27
                          have c27b1 : (t184 != 0) = false := bne_eq_false_iff_eq.mpr c27
                          clear c27
                          have H' := Aside0.mk H
                          clear H
                          have q28 : (x12_3 : Int) ≤ ((x6_2.length : Int) : Int) := of_decide_eq_true (by first | (with_reducible assumption) | assumption)
                          obtain ⟨i028, hi028, _, hsz28, _⟩ := info_parts info5
                          have hroom28 : x6_2.length ≤ co21 := (Kd.R_reads' HO_6.out).2.1
                          have hC28 : Kd.C (Kd.int .u8) _ Ao21 x6_2.length x6_2 := (Kd.R_reads' HO_6.out).2.2
                          have q028 : (0 : Int) ≤ (x12_3 : Int) := of_decide_eq_true (by first | (with_reducible assumption) | assumption)
                          have hcut28 := cut_from (P := Try.prog) 22 5 .i64 Try.underlying22 hi028 1 hsz28 Ao21 x6_2.length co21 x12_3 q028 q28
                          have hr28 := Kd.C_drop (m := (x12_3 : Int).toNat) (c := co21) hC28 (by omega) hroom28
                          obtain ⟨A28, hA28⟩ : ∃ A1, A1 = (if co21 = (x12_3 : Int).toNat then Ao21 else (Ao21 : Option Addr).map (·.add ((x12_3 : Int).toNat * 1))) := ⟨_, rfl⟩
                          obtain ⟨c28, hc28⟩ : ∃ c1, c1 = co21 - (x12_3 : Int).toNat := ⟨_, rfl⟩
                          have hy28 : y175.length = x6_2.length - (x12_3 : Int).toNat := (by rw [Ny175.out, List.length_drop] <;> omega)
                          rw [show (x6_2).drop (x12_3 : Int).toNat = y175 from Ny175.out.symm] at hr28
                          replace hr28 : Kd.C (Kd.int .u8) _ A28 y175.length y175 := (by rw [hA28]; exact hr28)
                          rw [← hy28, ← hA28, ← hc28] at hcut28
                          have HR178 := Aside0.mk hr28
                          have HC178 := Aside0.mk (show y175.length ≤ c28 from by rw [hy28, hc28]; exact Nat.sub_le_sub_right hroom28 _)
                          clear hr28 hC28 hroom28 hi028 hsz28 hc28
                          have KY28 := Aside0.mk hy28
                          have KA28 := Aside0.mk hA28
                          clear hy28 hA28
                          have KL28 := Aside0.mk (show (x12_3 : Int).toNat ≤ x6_2.length from by omega)
                          replace q28 := eq_true q28
                          go_wp2_with (first | ((with_reducible refine gate_callee (f := 17) rfl ?_); refine goesL_ (some 74) rfl rfl Try.func17 (by kernel_rfl) rfl #[.slice A28 y175.length c28] rfl (by (try simp only [List.map_toArray, List.map_cons, List.map_nil]); first | done | rfl | (simp only [List.length_drop, List.length_take]; rfl)) ?_; (with_reducible refine (sobriquetref01_Read.calls k3 _ _ y175 t179 t180 t181 t182 t183 t184 _ ?side1 ?side2 A26.out).mono ?_); (case side1 => repeat (first | exact (by repeat (first | (with_reducible exact HR178.out) | (with_reducible refine Kd.C_alloc ?_ _) | (with_reducible refine Kd.C_drewN ?_ _) | (with_reducible refine Kd.C_drew ?_) | exact HR178.out)) | (with_reducible refine Kd.C_alloc ?_ _) | (with_reducible refine Kd.C_drewN ?_ _) | (with_reducible refine Kd.C_drew ?_))); (case side2 => exact HC178.out); rintro e w29 ⟨rfl, hb⟩; refine ⟨_, rfl, ?_⟩; have n0_ := Aside0.mk (Kd.R_below (by (with_reducible repeat (first | apply Kd.R_alloc | apply Kd.R_drewN | apply Kd.R_drew)); exact HO_6.out) hb); have n1_ := Aside0.mk (Kd.C_below (by repeat (first | (with_reducible exact HR178.out) | (with_reducible refine Kd.C_alloc ?_ _) | (with_reducible refine Kd.C_drewN ?_ _) | (with_reducible refine Kd.C_drew ?_) | exact HR178.out)) hb); have n2_ := Aside0.mk (below_step (by repeat (first | (with_reducible first | exact HB.out | apply below_alloc | apply pw_below_drewN | apply below_drew1) | exact HB.out)) hb); clear HO_6; clear HR178; clear HB; have HO_6 := n0_; have HR178 := n1_; have HB := n2_; clear n0_ n1_ n2_; (try clear hb); (try clear hb2); (try clear hk); (try clear hi)) | ((with_reducible refine gate_dst (N := 14) rfl ?_); refine box_event ?hg (N := 14) ?hd (cs := #[.int .i64 0, .int .i64 0, .bool false, .int .i64 0, .int .i64 0]) (t := 35) ?hr ?_; (case hd => rfl); (case hg => rfl); (case hr => first | (go_simp; done) | (go_simp; rfl)); intro gb185 hg w30 hbox hb; have n0_ := Aside0.mk (Kd.R_below (by (with_reducible repeat (first | apply Kd.R_alloc | apply Kd.R_drewN | apply Kd.R_drew)); exact HO_6.out) hb); have n1_ := Aside0.mk (Kd.C_below (by repeat (first | (with_reducible exact HR178.out) | (with_reducible refine Kd.C_alloc ?_ _) | (with_reducible refine Kd.C_drewN ?_ _) | (with_reducible refine Kd.C_drew ?_) | exact HR178.out)) hb); have n2_ := Aside0.mk (below_step (by repeat (first | (with_reducible first | exact HB.out | apply below_alloc | apply pw_below_drewN | apply below_drew1) | exact HB.out)) hb); have n3_ := Aside0.mk (hbox); have n4_ := Aside0.mk ((by rw [hg]; exact (below_size (by repeat (first | (with_reducible first | exact HB.out | apply below_alloc | apply pw_below_drewN | apply below_drew1) | exact HB.out))) : w.heap.size ≤ gb185)); have n5_ := Aside0.mk ((by rw [hg]; exact (below_size (by repeat (first | (with_reducible first | exact HB.out | apply below_alloc | apply pw_below_drewN | apply below_drew1) | exact HB.out))) : w.heap.size ≤ gb185)); clear HO_6; clear HR178; clear HB; have HO_6 := n0_; have HR178 := n1_; have HB := n2_; have BK185 := n3_; have GW185 := n4_; have GE185 := n5_; clear n0_ n1_ n2_ n3_ n4_ n5_; clear hb hbox hg; have hcz31_0 : w30.cell? ⟨gb185, 0, none⟩ = some (.int .i64 0) := (blk_cell BK185.out 0).trans rfl; have hcz31_1 : w30.cell? ⟨gb185, 1, none⟩ = some (.int .i64 0) := (blk_cell BK185.out 1).trans rfl; have hcz31_2 : w30.cell? ⟨gb185, 2, none⟩ = some (.bool false) := (blk_cell BK185.out 2).trans rfl; have hcz31_3 : w30.cell? ⟨gb185, 3, none⟩ = some (.int .i64 0) := (blk_cell BK185.out 3).trans rfl; have hcz31_4 : w30.cell? ⟨gb185, 4, none⟩ = some (.int .i64 0) := (blk_cell BK185.out 4).trans rfl; have hfz31_0 := blk_frozen BK185.out 0; have hfz31_1 := blk_frozen BK185.out 1; have hfz31_2 := blk_frozen BK185.out 2; have hfz31_3 := blk_frozen BK185.out 3; have hfz31_4 := blk_frozen BK185.out 4))
                          go_roundg k3
                          case measure => have := HJ2.out; have := HK2.out; have := HK3.out; omega
                          case rel => exact ⟨(wrap64 (x12_3 + t183)), (wrap64 (x13_3 + 1)), (by first | rfl | (simp; done) | (simp [*]; done)), (by first | rfl | (simp; done) | (simp [*]; done)), H', ⟨by have := HJ2.out; have := HK2.out; have := HK3.out; omega⟩, ⟨by (with_reducible repeat (first | apply Kd.R_alloc | apply Kd.R_drewN | apply Kd.R_drew)); exact Kd.R_mono (Kd.R_far (p := ⟨gb185, 4, none⟩) (Kd.R_far (p := ⟨gb185, 3, none⟩) (Kd.R_far (p := ⟨gb185, 2, none⟩) (Kd.R_far (p := ⟨gb185, 1, none⟩) (Kd.R_far (p := ⟨gb185, 0, none⟩) (Kd.R_types HO_6.out BK185.out (by decide)) (fun _ hk => hk.2) (.int .i64 t179)) (fun _ hk => hk.2) (.int .i64 t180)) (fun _ hk => hk.2) (.bool t181)) (fun _ hk => hk.2) (.int .i64 t182)) (fun _ hk => hk.2) (.int .i64 t183)) (fun _ hk => trivial)⟩, ⟨by repeat (first | (with_reducible first | exact HB.out | apply below_alloc | apply pw_below_drewN | apply below_drew1 | refine below_set ?_ GE185.out) | exact HB.out)⟩⟩
                        · rw [if_neg c27] at H
                          have c27b0 : (t184 == 0) = false := beq_eq_false_iff_ne.mpr c27
                          have c27b1 : (t184 != 0) = true := bne_iff_ne.mpr c27
                          exact absurd ((Option.some.inj H).trans hrt.out) (by decide)
                      · rw [if_neg c25] at H
                        exact absurd H (by simp)
                    · rw [if_neg c24] at H
                      exact absurd H (by simp)
                  · rw [if_neg c23] at H
                    have c23b0 : decide (x13_3 < 32) = false := decide_eq_false c23
                    clear c23
                    by_cases c32 : t170 = 6
                    · rw [if_pos c32] at H
                      have c32b0 : (t170 == 6) = true := beq_iff_eq.mpr c32
                      have c32b1 : (t170 != 6) = false := bne_eq_false_iff_eq.mpr c32
                      clear c32
                      by_cases c33 : t169 = x12_3
                      · rw [if_pos c33] at H
                        have c33b0 : (t169 == x12_3) = true := beq_iff_eq.mpr c33
                        have c33b1 : (t169 != x12_3) = false := bne_eq_false_iff_eq.mpr c33
                        clear c33
                        replace H := Option.bind_eq_some_iff.mp H
                        obtain ⟨t174, A340, H⟩ := H
                        replace H : (some t174) = some r := H
                        have A34 := Aside0.mk A340
                        clear A340
                        obtain rfl := Option.some.inj H
                        go_wp2_with (first | (go_at_call 16; (with_reducible refine (sobriquetlaw02_wakes.calls k3  t174 _ A34.out (by first | exact hrt.out | rfl)).mono ?_); rintro e w35 ⟨rfl, hb⟩; have n0_ := Aside0.mk (Kd.R_below (by (with_reducible repeat (first | apply Kd.R_alloc | apply Kd.R_drewN | apply Kd.R_drew)); exact HO_6.out) hb); have n1_ := Aside0.mk (below_step (by repeat (first | (with_reducible first | exact HB.out | apply below_alloc | apply pw_below_drewN | apply below_drew1) | exact HB.out)) hb); clear HO_6; clear HB; have HO_6 := n0_; have HB := n1_; clear n0_ n1_; (try clear hb); (try clear hb2); (try clear hk); (try clear hi)))
                        go_ret
                        exact ⟨by first | rfl | (simp [errW_none, errW_some] <;> rfl) | (simp [*, errW_none, errW_some] <;> rfl), by repeat (first | (with_reducible first | exact HB.out | apply below_alloc | apply pw_below_drewN | apply below_drew1) | exact HB.out)⟩
                      · rw [if_neg c33] at H
                        have c33b0 : (t169 == x12_3) = false := beq_eq_false_iff_ne.mpr c33
                        have c33b1 : (t169 != x12_3) = true := bne_iff_ne.mpr c33
                        exact absurd ((Option.some.inj H).trans hrt.out) (by decide)
                    · rw [if_neg c32] at H
                      have c32b0 : (t170 == 6) = false := beq_eq_false_iff_ne.mpr c32
                      have c32b1 : (t170 != 6) = true := bne_iff_ne.mpr c32
                      exact absurd ((Option.some.inj H).trans hrt.out) (by decide)

/-- THE ONE PURE STATEMENT of sobriquetlaw02_WellDeep: yours. -/
def sobriquetlaw02_WellDeep.Pure : Prop := ∀ (a0 : Int) (a1 : Int), (Lit.int .i64 a0).wf = true → (Lit.int .i64 a1).wf = true → ∃ k, sobriquetlaw02_WellDeep.f k a0 a1 = some true
theorem sobriquetlaw02_WellDeep.walk (P : sobriquetlaw02_WellDeep.Pure) (a0 : Int) (a1 : Int) (w : World) (w0 : (Lit.int .i64 a0).wf = true) (w1 : (Lit.int .i64 a1).wf = true) :
    Calls Try.prog 5 #[.int .i64 a0, .int .i64 a1] w fun e w' => e = .returned (.bool true) ∧ Below w.heap.size w w' := by
  obtain ⟨k, h⟩ := P a0 a1 w0 w1
  refine (sobriquetlaw02_WellDeep.calls k a0 a1 true w h rfl).mono ?_
  rintro e w' ⟨rfl, hd⟩
  exact ⟨rfl, hd⟩

end Go.Proofs.Ytogbpdmncnldhaa.MWellDeep
