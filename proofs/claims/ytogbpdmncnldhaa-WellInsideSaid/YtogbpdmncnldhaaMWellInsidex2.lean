-- Written by a program of this session over the translation; checked by Lean alone.
import Derived.Test.YtogbpdmncnldhaaMWellInsidex0
import Derived.Test.YtogbpdmncnldhaaMWellInsidex1
namespace Go.Proofs.Ytogbpdmncnldhaa.MWellInside
open Go.RowKit Go.Proofs.YtogbpdmncnldhaaW.PrintWords Go.Proofs.YtogbpdmncnldhaaW.PrintLast Go.Proofs.YtogbpdmncnldhaaW.PrintMore
attribute [local go_sem] max2_int min2_int max_two min_two max_three min_three max_four min_four   -- for this text's walks alone
set_option linter.unusedVariables false
set_option linter.unusedSimpArgs false
set_option linter.unnecessarySimpa false

/-! ### sobriquetlaw02_WellInside: function 9 -/
mutual
def sobriquetlaw02_WellInside.j0 : Nat → List Int → List Int → Bool → Option (Bool)
  | 0, _, _, _ => none
  | k + 1, x0, x1, x23 => if x23 = true then (some true) else ((well_Check.f k x0).bind fun bt169 => ((well_Depth.f k x0).bind fun bt171 => ((well_Check.f k x1).bind fun bt173 => (if bt169.2 = 0 then (if bt171.1 ≥ 32 then (sobriquetlaw02_WellInside.j1 k x0 x1 bt173.1 bt173.2 true) else (if bt173.2 = 0 then (sobriquetlaw02_WellInside.j1 k x0 x1 bt173.1 bt173.2 true) else (if bt173.2 = 5 then (sobriquetlaw02_WellInside.j1 k x0 x1 bt173.1 bt173.2 true) else (if bt173.2 = 6 then (sobriquetlaw02_WellInside.j1 k x0 x1 bt173.1 bt173.2 true) else (sobriquetlaw02_WellInside.j1 k x0 x1 bt173.1 bt173.2 ((x1.length : Int) == 0)))))) else (sobriquetlaw02_WellInside.j1 k x0 x1 bt173.1 bt173.2 true)))))
def sobriquetlaw02_WellInside.j1 : Nat → List Int → List Int → Int → Int → Bool → Option (Bool)
  | 0, _, _, _, _, _ => none
  | k + 1, x0, x1, x9, x10, x61 => if x61 = true then ((sobriquetlaw02_wakes.f k).bind fun t175 => (some t175)) else ((sobriquetkeep_Twin.f x0).bind fun t176 => (if t176.length + x1.length < 140737488355328 then ((sobriquetref01_Wrap.f k 0 16 true (t176 ++ x1)).bind fun t182 => ((tlv_Read.f k t182).bind fun bt185 => ((well_Check.f k t182).bind fun bt192 => (if bt185.2.2.2.2.2 = 0 then (if bt192.2 = x10 then (if bt192.1 = (wrap64 ((wrap64 (bt185.2.2.2.2.1 + (x0.length : Int))) + x9)) then ((sobriquetlaw02_wakes.f k).bind fun t194 => (some t194)) else (some false)) else (some false)) else (some false))))) else (none)))
end
def sobriquetlaw02_WellInside.f (k : Nat) (l0 : List Int) (l1 : List Int) : Option (Bool) := if (l0.length : Int) > 200 then (sobriquetlaw02_WellInside.j0 k l0 l1 true) else (sobriquetlaw02_WellInside.j0 k l0 l1 (decide ((l1.length : Int) > 58)))
theorem sobriquetlaw02_WellInside.mono_l : ∀ k, (∀ y0 y1 y2, LeO (sobriquetlaw02_WellInside.j0 k y0 y1 y2) (sobriquetlaw02_WellInside.j0 (k + 1) y0 y1 y2)) ∧ (∀ y0 y1 y2 y3 y4, LeO (sobriquetlaw02_WellInside.j1 k y0 y1 y2 y3 y4) (sobriquetlaw02_WellInside.j1 (k + 1) y0 y1 y2 y3 y4))
  | 0 => ⟨fun _ _ _ r h => by simp [sobriquetlaw02_WellInside.j0] at h, fun _ _ _ _ _ r h => by simp [sobriquetlaw02_WellInside.j1] at h⟩
  | k + 1 => by
    obtain ⟨ih0, ih1⟩ := sobriquetlaw02_WellInside.mono_l k
    refine ⟨?_, ?_⟩
    · intro y0 y1 y2
      unfold sobriquetlaw02_WellInside.j0
      repeat' first
      | (with_reducible exact ih0 _ _ _)
      | (with_reducible exact ih1 _ _ _ _ _)
      | (with_reducible exact sobriquetlaw02_wakes.mono _)
      | (with_reducible exact sobriquetref01_Wrap.mono _ _ _ _ _)
      | (with_reducible exact tlv_Read.mono _ _)
      | (with_reducible exact well_Check.mono _ _)
      | (with_reducible exact well_Depth.mono _ _)
      | (with_reducible exact LeO.refl _)
      | (with_reducible exact LeO.none _)
      | (with_reducible refine LeO.ite ?_ ?_)
      | (with_reducible refine LeO.bind ?_ (fun _ => ?_))
      | exact ih0 _ _ _
      | exact ih1 _ _ _ _ _
      | exact sobriquetlaw02_wakes.mono _
      | exact sobriquetref01_Wrap.mono _ _ _ _ _
      | exact tlv_Read.mono _ _
      | exact well_Check.mono _ _
      | exact well_Depth.mono _ _
      | exact LeO.none _
      | refine LeO.ite ?_ ?_
      | refine LeO.bind ?_ (fun _ => ?_)
    · intro y0 y1 y2 y3 y4
      unfold sobriquetlaw02_WellInside.j1
      repeat' first
      | (with_reducible exact ih0 _ _ _)
      | (with_reducible exact ih1 _ _ _ _ _)
      | (with_reducible exact sobriquetlaw02_wakes.mono _)
      | (with_reducible exact sobriquetref01_Wrap.mono _ _ _ _ _)
      | (with_reducible exact tlv_Read.mono _ _)
      | (with_reducible exact well_Check.mono _ _)
      | (with_reducible exact well_Depth.mono _ _)
      | (with_reducible exact LeO.refl _)
      | (with_reducible exact LeO.none _)
      | (with_reducible refine LeO.ite ?_ ?_)
      | (with_reducible refine LeO.bind ?_ (fun _ => ?_))
      | exact ih0 _ _ _
      | exact ih1 _ _ _ _ _
      | exact sobriquetlaw02_wakes.mono _
      | exact sobriquetref01_Wrap.mono _ _ _ _ _
      | exact tlv_Read.mono _ _
      | exact well_Check.mono _ _
      | exact well_Depth.mono _ _
      | exact LeO.none _
      | refine LeO.ite ?_ ?_
      | refine LeO.bind ?_ (fun _ => ?_)
theorem sobriquetlaw02_WellInside.mono : ∀ a0 a1 k, LeO (sobriquetlaw02_WellInside.f k a0 a1) (sobriquetlaw02_WellInside.f (k + 1) a0 a1) := by
  intro a0 a1 k
  obtain ⟨ih0, ih1⟩ := sobriquetlaw02_WellInside.mono_l k
  unfold sobriquetlaw02_WellInside.f
  repeat' first
      | (with_reducible exact ih0 _ _ _)
      | (with_reducible exact ih1 _ _ _ _ _)
      | (with_reducible exact sobriquetlaw02_wakes.mono _)
      | (with_reducible exact sobriquetref01_Wrap.mono _ _ _ _ _)
      | (with_reducible exact tlv_Read.mono _ _)
      | (with_reducible exact well_Check.mono _ _)
      | (with_reducible exact well_Depth.mono _ _)
      | (with_reducible exact LeO.refl _)
      | (with_reducible exact LeO.none _)
      | (with_reducible refine LeO.ite ?_ ?_)
      | (with_reducible refine LeO.bind ?_ (fun _ => ?_))
      | exact ih0 _ _ _
      | exact ih1 _ _ _ _ _
      | exact sobriquetlaw02_wakes.mono _
      | exact sobriquetref01_Wrap.mono _ _ _ _ _
      | exact tlv_Read.mono _ _
      | exact well_Check.mono _ _
      | exact well_Depth.mono _ _
      | exact LeO.none _
      | refine LeO.ite ?_ ?_
      | refine LeO.bind ?_ (fun _ => ?_)
set_option maxHeartbeats 8000000 in
set_option maxRecDepth 100000 in
theorem sobriquetlaw02_WellInside.calls (k : Nat) (A0 : Option Addr) (c0 : Nat) (l0 : List Int) (A1 : Option Addr) (c1 : Nat) (l1 : List Int) (r : Bool) (w : World) (hr0 : Kd.C (Kd.int .u8) w A0 l0.length l0) (hc0 : l0.length ≤ c0) (hr1 : Kd.C (Kd.int .u8) w A1 l1.length l1) (hc1 : l1.length ≤ c1) (h : sobriquetlaw02_WellInside.f k l0 l1 = some r) (hrt0 : r = true) :
    Calls Try.prog 9 #[.slice A0 l0.length c0, .slice A1 l1.length c1] w fun e w' => e = .returned (.bool r) ∧ Below w.heap.size w w' := by
  have hu35 := Try.underlying35
  have HR0 := Aside0.mk hr0
  have HC0 := Aside0.mk hc0
  clear hr0 hc0
  have HR1 := Aside0.mk hr1
  have HC1 := Aside0.mk hc1
  clear hr1 hc1
  have HB := Aside0.mk (Below.refl w.heap.size w)
  have hrt := Aside0.mk hrt0
  clear hrt0
  have H : (if (l0.length : Int) > 200 then (sobriquetlaw02_WellInside.j0 k l0 l1 true) else (sobriquetlaw02_WellInside.j0 k l0 l1 (decide ((l1.length : Int) > 58)))) = some r := h
  clear h
  have HC3 := Aside0.mk H
  clear H
  go_enter Try.func9, Try.ntmps9
  go_upto_region 1 with (fail)
  go_cut [23] (fun v23 wc => ∃ (kq : Nat) (x23_2 : Bool), v23 = .bool x23_2 ∧ Aside0 (sobriquetlaw02_WellInside.j0 kq l0 l1 x23_2 = some r) ∧ Aside0 (kq ≤ k) ∧ Aside0 (Below w.heap.size w wc))
  case first =>
    have H := HC3.out
    clear HC3
    by_cases c4 : (l0.length : Int) > 200
    · rw [if_pos c4] at H
      have c4b0 : decide (200 < (l0.length : Int)) = true := decide_eq_true c4
      have c4b1 : decide (200 < l0.length) = true := decide_eq_true (by omega)
      clear c4
      (first | rw [c4b0] | (simp only [i64_w, i32_w]; rw [c4b0]) | skip)
      have H' := Aside0.mk H
      clear H
      go_wp2
      go_meet
      case rel => exact ⟨_, (true), (by first | rfl | (simp; done) | (simp [*]; done)), H', ⟨by first | omega | exact Nat.le_refl _⟩, ⟨by repeat (first | (with_reducible first | exact HB.out | apply below_alloc | apply pw_below_drewN | apply below_drew1) | exact HB.out)⟩⟩
    · rw [if_neg c4] at H
      have c4b0 : decide (200 < (l0.length : Int)) = false := decide_eq_false c4
      have c4b1 : decide (200 < l0.length) = false := decide_eq_false (by omega)
      clear c4
      (first | rw [c4b0] | (simp only [i64_w, i32_w]; rw [c4b0]) | skip)
      have H' := Aside0.mk H
      clear H
      go_wp2
      go_meet
      case rel => exact ⟨_, (decide ((l1.length : Int) > 58)), (by first | rfl | (simp; done) | (simp [*]; done)), H', ⟨by first | omega | exact Nat.le_refl _⟩, ⟨by repeat (first | (with_reducible first | exact HB.out | apply below_alloc | apply pw_below_drewN | apply below_drew1) | exact HB.out)⟩⟩
  case rest =>
    clear HC3
    try clear c1
    try clear p2
    try clear c4
    try clear c4b0
    try clear c4b1
    obtain ⟨kq, x23_2, rfl, HA, HJ2, HB⟩ := hcut
    cases kq with
    | zero => exact absurd HA.out (by simp [sobriquetlaw02_WellInside.j0])
    | succ kj2 =>
      have H := HA.out
      clear HA
      simp only [sobriquetlaw02_WellInside.j0] at H
      by_cases c5 : x23_2 = true
      · subst c5
        have H1 : (some true) = some r := by rw [if_pos rfl] at H; exact H
        clear H
        have H := H1
        clear H1
        obtain rfl := Option.some.inj H
        go_wp2
        go_ret
        exact ⟨by first | rfl | (simp [errW_none, errW_some] <;> rfl) | (simp [*, errW_none, errW_some] <;> rfl), by repeat (first | (with_reducible first | exact HB.out | apply below_alloc | apply pw_below_drewN | apply below_drew1) | exact HB.out)⟩
      · replace c5 := Bool.eq_false_iff.mpr c5
        subst c5
        have H1 : ((well_Check.f kj2 l0).bind fun bt169 => ((well_Depth.f kj2 l0).bind fun bt171 => ((well_Check.f kj2 l1).bind fun bt173 => (if bt169.2 = 0 then (if bt171.1 ≥ 32 then (sobriquetlaw02_WellInside.j1 kj2 l0 l1 bt173.1 bt173.2 true) else (if bt173.2 = 0 then (sobriquetlaw02_WellInside.j1 kj2 l0 l1 bt173.1 bt173.2 true) else (if bt173.2 = 5 then (sobriquetlaw02_WellInside.j1 kj2 l0 l1 bt173.1 bt173.2 true) else (if bt173.2 = 6 then (sobriquetlaw02_WellInside.j1 kj2 l0 l1 bt173.1 bt173.2 true) else (sobriquetlaw02_WellInside.j1 kj2 l0 l1 bt173.1 bt173.2 ((l1.length : Int) == 0)))))) else (sobriquetlaw02_WellInside.j1 kj2 l0 l1 bt173.1 bt173.2 true))))) = some r := by rw [if_neg (show ¬ (false = true) by decide)] at H; exact H
        clear H
        have H := H1
        clear H1
        replace H := Option.bind_eq_some_iff.mp H
        obtain ⟨⟨t169, t170⟩, A60, H⟩ := H
        replace H : ((well_Depth.f kj2 l0).bind fun bt171 => ((well_Check.f kj2 l1).bind fun bt173 => (if t170 = 0 then (if bt171.1 ≥ 32 then (sobriquetlaw02_WellInside.j1 kj2 l0 l1 bt173.1 bt173.2 true) else (if bt173.2 = 0 then (sobriquetlaw02_WellInside.j1 kj2 l0 l1 bt173.1 bt173.2 true) else (if bt173.2 = 5 then (sobriquetlaw02_WellInside.j1 kj2 l0 l1 bt173.1 bt173.2 true) else (if bt173.2 = 6 then (sobriquetlaw02_WellInside.j1 kj2 l0 l1 bt173.1 bt173.2 true) else (sobriquetlaw02_WellInside.j1 kj2 l0 l1 bt173.1 bt173.2 ((l1.length : Int) == 0)))))) else (sobriquetlaw02_WellInside.j1 kj2 l0 l1 bt173.1 bt173.2 true)))) = some r := H
        have A6 := Aside0.mk A60
        clear A60
        replace H := Option.bind_eq_some_iff.mp H
        obtain ⟨⟨t171, t172⟩, A70, H⟩ := H
        replace H : ((well_Check.f kj2 l1).bind fun bt173 => (if t170 = 0 then (if t171 ≥ 32 then (sobriquetlaw02_WellInside.j1 kj2 l0 l1 bt173.1 bt173.2 true) else (if bt173.2 = 0 then (sobriquetlaw02_WellInside.j1 kj2 l0 l1 bt173.1 bt173.2 true) else (if bt173.2 = 5 then (sobriquetlaw02_WellInside.j1 kj2 l0 l1 bt173.1 bt173.2 true) else (if bt173.2 = 6 then (sobriquetlaw02_WellInside.j1 kj2 l0 l1 bt173.1 bt173.2 true) else (sobriquetlaw02_WellInside.j1 kj2 l0 l1 bt173.1 bt173.2 ((l1.length : Int) == 0)))))) else (sobriquetlaw02_WellInside.j1 kj2 l0 l1 bt173.1 bt173.2 true))) = some r := H
        have A7 := Aside0.mk A70
        clear A70
        replace H := Option.bind_eq_some_iff.mp H
        obtain ⟨⟨t173, t174⟩, A80, H⟩ := H
        replace H : (if t170 = 0 then (if t171 ≥ 32 then (sobriquetlaw02_WellInside.j1 kj2 l0 l1 t173 t174 true) else (if t174 = 0 then (sobriquetlaw02_WellInside.j1 kj2 l0 l1 t173 t174 true) else (if t174 = 5 then (sobriquetlaw02_WellInside.j1 kj2 l0 l1 t173 t174 true) else (if t174 = 6 then (sobriquetlaw02_WellInside.j1 kj2 l0 l1 t173 t174 true) else (sobriquetlaw02_WellInside.j1 kj2 l0 l1 t173 t174 ((l1.length : Int) == 0)))))) else (sobriquetlaw02_WellInside.j1 kj2 l0 l1 t173 t174 true)) = some r := H
        have A8 := Aside0.mk A80
        clear A80
        have HC9 := Aside0.mk H
        clear H
        go_upto_region 6 with (first | ((with_reducible refine gate_callee (f := 11) rfl ?_); refine goesL_ (some 26) rfl rfl Try.func11 (by kernel_rfl) rfl #[.slice A0 l0.length c0] rfl (by (try simp only [List.map_toArray, List.map_cons, List.map_nil]); first | done | rfl | (simp only [List.length_drop, List.length_take]; rfl)) ?_; (with_reducible refine (well_Check.calls kj2 _ _ l0 t169 t170 _ ?side1 ?side2 A6.out).mono ?_); (case side1 => repeat (first | exact (Kd.C_below HR0.out HB.out) | (with_reducible refine Kd.C_alloc ?_ _) | (with_reducible refine Kd.C_drewN ?_ _) | (with_reducible refine Kd.C_drew ?_))); (case side2 => exact HC0.out); rintro e w10 ⟨rfl, hb⟩; refine ⟨_, rfl, ?_⟩; have n0_ := Aside0.mk (below_step (by repeat (first | (with_reducible first | exact HB.out | apply below_alloc | apply pw_below_drewN | apply below_drew1) | exact HB.out)) hb); clear HB; have HB := n0_; clear n0_; (try clear hb); (try clear hb2); (try clear hk); (try clear hi)) | ((with_reducible refine gate_callee (f := 13) rfl ?_); refine goesL_ (some 31) rfl rfl Try.func13 (by kernel_rfl) rfl #[.slice A0 l0.length c0] rfl (by (try simp only [List.map_toArray, List.map_cons, List.map_nil]); first | done | rfl | (simp only [List.length_drop, List.length_take]; rfl)) ?_; (with_reducible refine (well_Depth.calls kj2 _ _ l0 t171 t172 _ ?side1 ?side2 A7.out).mono ?_); (case side1 => repeat (first | exact (Kd.C_below HR0.out HB.out) | (with_reducible refine Kd.C_alloc ?_ _) | (with_reducible refine Kd.C_drewN ?_ _) | (with_reducible refine Kd.C_drew ?_))); (case side2 => exact HC0.out); rintro e w11 ⟨rfl, hb⟩; refine ⟨_, rfl, ?_⟩; have n0_ := Aside0.mk (below_step (by repeat (first | (with_reducible first | exact HB.out | apply below_alloc | apply pw_below_drewN | apply below_drew1) | exact HB.out)) hb); clear HB; have HB := n0_; clear n0_; (try clear hb); (try clear hb2); (try clear hk); (try clear hi)) | ((with_reducible refine gate_callee (f := 11) rfl ?_); refine goesL_ (some 36) rfl rfl Try.func11 (by kernel_rfl) rfl #[.slice A1 l1.length c1] rfl (by (try simp only [List.map_toArray, List.map_cons, List.map_nil]); first | done | rfl | (simp only [List.length_drop, List.length_take]; rfl)) ?_; (with_reducible refine (well_Check.calls kj2 _ _ l1 t173 t174 _ ?side1 ?side2 A8.out).mono ?_); (case side1 => repeat (first | exact (Kd.C_below HR1.out HB.out) | (with_reducible refine Kd.C_alloc ?_ _) | (with_reducible refine Kd.C_drewN ?_ _) | (with_reducible refine Kd.C_drew ?_))); (case side2 => exact HC1.out); rintro e w12 ⟨rfl, hb⟩; refine ⟨_, rfl, ?_⟩; have n0_ := Aside0.mk (below_step (by repeat (first | (with_reducible first | exact HB.out | apply below_alloc | apply pw_below_drewN | apply below_drew1) | exact HB.out)) hb); clear HB; have HB := n0_; clear n0_; (try clear hb); (try clear hb2); (try clear hk); (try clear hi)))
        (try simp only [Act.put, List.setIfInBounds_toArray, List.set_cons_zero, List.set_cons_succ])
        go_cut [61] (fun v61 wc => ∃ (kq : Nat) (x61_8 : Bool), v61 = .bool x61_8 ∧ Aside0 (sobriquetlaw02_WellInside.j1 kq l0 l1 t173 t174 x61_8 = some r) ∧ Aside0 (kq ≤ kj2) ∧ Aside0 (Below w.heap.size w wc))
        case first =>
          have H := HC9.out
          clear HC9
          by_cases c13 : t170 = 0
          · rw [if_pos c13] at H
            have c13b0 : (t170 == 0) = true := beq_iff_eq.mpr c13
            have c13b1 : (t170 != 0) = false := bne_eq_false_iff_eq.mpr c13
            clear c13
            (first | rw [c13b0] | (simp only [i64_w, i32_w]; rw [c13b0]) | skip)
            by_cases c14 : t171 ≥ 32
            · rw [if_pos c14] at H
              have c14b0 : decide (32 ≤ t171) = true := decide_eq_true c14
              clear c14
              have H' := Aside0.mk H
              clear H
              go_wp2
              go_meet
              case rel => exact ⟨_, (true), (by first | rfl | (simp; done) | (simp [*]; done)), H', ⟨by have := HJ2.out; first | omega | exact Nat.le_refl _⟩, ⟨by repeat (first | (with_reducible first | exact HB.out | apply below_alloc | apply pw_below_drewN | apply below_drew1) | exact HB.out)⟩⟩
            · rw [if_neg c14] at H
              have c14b0 : decide (32 ≤ t171) = false := decide_eq_false c14
              clear c14
              by_cases c15 : t174 = 0
              · rw [if_pos c15] at H
                have c15b0 : (t174 == 0) = true := beq_iff_eq.mpr c15
                have c15b1 : (t174 != 0) = false := bne_eq_false_iff_eq.mpr c15
                clear c15
                have H' := Aside0.mk H
                clear H
                go_wp2
                go_meet
                case rel => exact ⟨_, (true), (by first | rfl | (simp; done) | (simp [*]; done)), H', ⟨by have := HJ2.out; first | omega | exact Nat.le_refl _⟩, ⟨by repeat (first | (with_reducible first | exact HB.out | apply below_alloc | apply pw_below_drewN | apply below_drew1) | exact HB.out)⟩⟩
              · rw [if_neg c15] at H
                have c15b0 : (t174 == 0) = false := beq_eq_false_iff_ne.mpr c15
                have c15b1 : (t174 != 0) = true := bne_iff_ne.mpr c15
                by_cases c16 : t174 = 5
                · rw [if_pos c16] at H
                  have c16b0 : (t174 == 5) = true := beq_iff_eq.mpr c16
                  have c16b1 : (t174 != 5) = false := bne_eq_false_iff_eq.mpr c16
                  clear c16
                  have H' := Aside0.mk H
                  clear H
                  go_wp2
                  go_meet
                  case rel => exact ⟨_, (true), (by first | rfl | (simp; done) | (simp [*]; done)), H', ⟨by have := HJ2.out; first | omega | exact Nat.le_refl _⟩, ⟨by repeat (first | (with_reducible first | exact HB.out | apply below_alloc | apply pw_below_drewN | apply below_drew1) | exact HB.out)⟩⟩
                · rw [if_neg c16] at H
                  have c16b0 : (t174 == 5) = false := beq_eq_false_iff_ne.mpr c16
                  have c16b1 : (t174 != 5) = true := bne_iff_ne.mpr c16
                  by_cases c17 : t174 = 6
                  · rw [if_pos c17] at H
                    have c17b0 : (t174 == 6) = true := beq_iff_eq.mpr c17
                    have c17b1 : (t174 != 6) = false := bne_eq_false_iff_eq.mpr c17
                    clear c17
                    have H' := Aside0.mk H
                    clear H
                    go_wp2
                    go_meet
                    case rel => exact ⟨_, (true), (by first | rfl | (simp; done) | (simp [*]; done)), H', ⟨by have := HJ2.out; first | omega | exact Nat.le_refl _⟩, ⟨by repeat (first | (with_reducible first | exact HB.out | apply below_alloc | apply pw_below_drewN | apply below_drew1) | exact HB.out)⟩⟩
                  · rw [if_neg c17] at H
                    have c17b0 : (t174 == 6) = false := beq_eq_false_iff_ne.mpr c17
                    have c17b1 : (t174 != 6) = true := bne_iff_ne.mpr c17
                    have H' := Aside0.mk H
                    clear H
                    go_wp2
                    go_meet
                    case rel => exact ⟨_, (((l1.length : Int) == 0)), (by first | rfl | (simp; done) | (simp [*]; done)), H', ⟨by have := HJ2.out; first | omega | exact Nat.le_refl _⟩, ⟨by repeat (first | (with_reducible first | exact HB.out | apply below_alloc | apply pw_below_drewN | apply below_drew1) | exact HB.out)⟩⟩
          · rw [if_neg c13] at H
            have c13b0 : (t170 == 0) = false := beq_eq_false_iff_ne.mpr c13
            have c13b1 : (t170 != 0) = true := bne_iff_ne.mpr c13
            (first | rw [c13b0] | (simp only [i64_w, i32_w]; rw [c13b0]) | skip)
            have H' := Aside0.mk H
            clear H
            go_wp2
            go_meet
            case rel => exact ⟨_, (true), (by first | rfl | (simp; done) | (simp [*]; done)), H', ⟨by have := HJ2.out; first | omega | exact Nat.le_refl _⟩, ⟨by repeat (first | (with_reducible first | exact HB.out | apply below_alloc | apply pw_below_drewN | apply below_drew1) | exact HB.out)⟩⟩
        case rest =>
          clear HC9
          try clear c1
          try clear p2
          try clear c4
          try clear c4b0
          try clear c4b1
          try clear c5
          try clear c9
          try clear c11
          try clear c13
          try clear c13b0
          try clear c13b1
          try clear c14
          try clear c14b0
          try clear c15
          try clear c15b0
          try clear c15b1
          try clear c16
          try clear c16b0
          try clear c16b1
          try clear c17
          try clear c17b0
          try clear c17b1
          try clear p2
          obtain ⟨kq, x61_8, rfl, HA, HJ8, HB⟩ := hcut
          cases kq with
          | zero => exact absurd HA.out (by simp [sobriquetlaw02_WellInside.j1])
          | succ kj8 =>
            have H := HA.out
            clear HA
            simp only [sobriquetlaw02_WellInside.j1] at H
            by_cases c18 : x61_8 = true
            · subst c18
              have H1 : ((sobriquetlaw02_wakes.f kj8).bind fun t175 => (some t175)) = some r := by rw [if_pos rfl] at H; exact H
              clear H
              have H := H1
              clear H1
              replace H := Option.bind_eq_some_iff.mp H
              obtain ⟨t175, A190, H⟩ := H
              replace H : (some t175) = some r := H
              have A19 := Aside0.mk A190
              clear A190
              obtain rfl := Option.some.inj H
              go_wp2_with (first | ((with_reducible refine gate_callee (f := 16) rfl ?_); refine goesL_ (some 62) rfl rfl Try.func16 (by kernel_rfl) rfl #[] rfl (by (try simp only [List.map_toArray, List.map_cons, List.map_nil]); first | done | rfl | (simp only [List.length_drop, List.length_take]; rfl)) ?_; (with_reducible refine (sobriquetlaw02_wakes.calls kj8  t175 _ A19.out (by first | exact hrt.out | rfl)).mono ?_); rintro e w20 ⟨rfl, hb⟩; refine ⟨_, rfl, ?_⟩; have n0_ := Aside0.mk (below_step (by repeat (first | (with_reducible first | exact HB.out | apply below_alloc | apply pw_below_drewN | apply below_drew1) | exact HB.out)) hb); clear HB; have HB := n0_; clear n0_; (try clear hb); (try clear hb2); (try clear hk); (try clear hi)))
              go_ret
              exact ⟨by first | rfl | (simp [errW_none, errW_some] <;> rfl) | (simp [*, errW_none, errW_some] <;> rfl), by repeat (first | (with_reducible first | exact HB.out | apply below_alloc | apply pw_below_drewN | apply below_drew1) | exact HB.out)⟩
            · replace c18 := Bool.eq_false_iff.mpr c18
              subst c18
              have H1 : ((sobriquetkeep_Twin.f l0).bind fun t176 => (if t176.length + l1.length < 140737488355328 then ((sobriquetref01_Wrap.f kj8 0 16 true (t176 ++ l1)).bind fun t182 => ((tlv_Read.f kj8 t182).bind fun bt185 => ((well_Check.f kj8 t182).bind fun bt192 => (if bt185.2.2.2.2.2 = 0 then (if bt192.2 = t174 then (if bt192.1 = (wrap64 ((wrap64 (bt185.2.2.2.2.1 + (l0.length : Int))) + t173)) then ((sobriquetlaw02_wakes.f kj8).bind fun t194 => (some t194)) else (some false)) else (some false)) else (some false))))) else (none))) = some r := by rw [if_neg (show ¬ (false = true) by decide)] at H; exact H
              clear H
              have H := H1
              clear H1
              replace H := Option.bind_eq_some_iff.mp H
              obtain ⟨t176, A210, H⟩ := H
              replace H : (if t176.length + l1.length < 140737488355328 then ((sobriquetref01_Wrap.f kj8 0 16 true (t176 ++ l1)).bind fun t182 => ((tlv_Read.f kj8 t182).bind fun bt185 => ((well_Check.f kj8 t182).bind fun bt192 => (if bt185.2.2.2.2.2 = 0 then (if bt192.2 = t174 then (if bt192.1 = (wrap64 ((wrap64 (bt185.2.2.2.2.1 + (l0.length : Int))) + t173)) then ((sobriquetlaw02_wakes.f kj8).bind fun t194 => (some t194)) else (some false)) else (some false)) else (some false))))) else (none)) = some r := H
              have A21 := Aside0.mk A210
              clear A210
              by_cases c22 : t176.length + l1.length < 140737488355328
              · rw [if_pos c22] at H
                have LMc22 := Aside0.mk c22
                clear c22
                obtain ⟨y179, hy179⟩ : ∃ y_ : List Int, y_ = (t176 ++ l1) := ⟨_, rfl⟩
                replace H : ((sobriquetref01_Wrap.f kj8 0 16 true y179).bind fun t182 => ((tlv_Read.f kj8 t182).bind fun bt185 => ((well_Check.f kj8 t182).bind fun bt192 => (if bt185.2.2.2.2.2 = 0 then (if bt192.2 = t174 then (if bt192.1 = (wrap64 ((wrap64 (bt185.2.2.2.2.1 + (l0.length : Int))) + t173)) then ((sobriquetlaw02_wakes.f kj8).bind fun t194 => (some t194)) else (some false)) else (some false)) else (some false))))) = some r := by first | (rw [hy179]; with_reducible exact H) | (have H2_ := (Option.bind_some _ _).symm.trans H; rw [hy179]; with_reducible exact H2_) | (have H2_ := (Option.bind_some _ _).symm.trans H; with_reducible exact H2_) | with_reducible exact H | (rw [hy179]; exact H) | exact H
                have Ny179 := Aside0.mk hy179
                clear hy179
                replace H := Option.bind_eq_some_iff.mp H
                obtain ⟨t182, A230, H⟩ := H
                replace H : ((tlv_Read.f kj8 t182).bind fun bt185 => ((well_Check.f kj8 t182).bind fun bt192 => (if bt185.2.2.2.2.2 = 0 then (if bt192.2 = t174 then (if bt192.1 = (wrap64 ((wrap64 (bt185.2.2.2.2.1 + (l0.length : Int))) + t173)) then ((sobriquetlaw02_wakes.f kj8).bind fun t194 => (some t194)) else (some false)) else (some false)) else (some false)))) = some r := H
                have A23 := Aside0.mk A230
                clear A230
                replace H := Option.bind_eq_some_iff.mp H
                obtain ⟨⟨t185, t186, t187, t188, t189, t190⟩, A240, H⟩ := H
                replace H : ((well_Check.f kj8 t182).bind fun bt192 => (if t190 = 0 then (if bt192.2 = t174 then (if bt192.1 = (wrap64 ((wrap64 (t189 + (l0.length : Int))) + t173)) then ((sobriquetlaw02_wakes.f kj8).bind fun t194 => (some t194)) else (some false)) else (some false)) else (some false))) = some r := H
                have A24 := Aside0.mk A240
                clear A240
                replace H := Option.bind_eq_some_iff.mp H
                obtain ⟨⟨t192, t193⟩, A250, H⟩ := H
                replace H : (if t190 = 0 then (if t193 = t174 then (if t192 = (wrap64 ((wrap64 (t189 + (l0.length : Int))) + t173)) then ((sobriquetlaw02_wakes.f kj8).bind fun t194 => (some t194)) else (some false)) else (some false)) else (some false)) = some r := H
                have A25 := Aside0.mk A250
                clear A250
                by_cases c26 : t190 = 0
                · rw [if_pos c26] at H
                  have c26b0 : (t190 == 0) = true := beq_iff_eq.mpr c26
                  have c26b1 : (t190 != 0) = false := bne_eq_false_iff_eq.mpr c26
                  clear c26
                  by_cases c27 : t193 = t174
                  · rw [if_pos c27] at H
                    have c27b0 : (t193 == t174) = true := beq_iff_eq.mpr c27
                    have c27b1 : (t193 != t174) = false := bne_eq_false_iff_eq.mpr c27
                    clear c27
                    by_cases c28 : t192 = (wrap64 ((wrap64 (t189 + (l0.length : Int))) + t173))
                    · rw [if_pos c28] at H
                      have c28b0 : (t192 == (wrap64 ((wrap64 (t189 + (l0.length : Int))) + t173))) = true := beq_iff_eq.mpr c28
                      have c28b1 : (t192 != (wrap64 ((wrap64 (t189 + (l0.length : Int))) + t173))) = false := bne_eq_false_iff_eq.mpr c28
                      clear c28
                      replace H := Option.bind_eq_some_iff.mp H
                      obtain ⟨t194, A290, H⟩ := H
                      replace H : (some t194) = some r := H
                      have A29 := Aside0.mk A290
                      clear A290
                      obtain rfl := Option.some.inj H
                      go_wp2_with (first | ((with_reducible refine gate_callee (f := 10) rfl ?_); refine goesL_ (some 64) rfl rfl Try.func10 (by kernel_rfl) rfl #[.slice A0 l0.length c0] rfl (by (try simp only [List.map_toArray, List.map_cons, List.map_nil]); first | done | rfl | (simp only [List.length_drop, List.length_take]; rfl)) ?_; (with_reducible refine (sobriquetkeep_Twin.calls _ _ l0 t176 _ ?side1 ?side2 A21.out).mono ?_); (case side1 => repeat (first | exact (Kd.C_below HR0.out HB.out) | (with_reducible refine Kd.C_alloc ?_ _) | (with_reducible refine Kd.C_drewN ?_ _) | (with_reducible refine Kd.C_drew ?_))); (case side2 => exact HC0.out); rintro e w30 ⟨v177, rfl, ho0, hb⟩; refine ⟨_, rfl, ?_⟩; have n0_ := Aside0.mk (Kd.R_lower ho0 (below_size (by repeat (first | (with_reducible first | exact HB.out | apply below_alloc | apply pw_below_drewN | apply below_drew1) | exact HB.out)))); have n1_ := Aside0.mk (below_step (by repeat (first | (with_reducible first | exact HB.out | apply below_alloc | apply pw_below_drewN | apply below_drew1) | exact HB.out)) hb); clear HB; have HO178 := n0_; have HB := n1_; clear n0_ n1_; (try clear hb); (try clear hb2); (try clear hk); (try clear hi); (try clear ho0)) | ((with_reducible refine gate_builtin (b := .append) (xs := #[.tmp 64, .tmp 65]) rfl ?_); (try (refine gate_guard (by rfl) ?_; dsimp only)); at_builtin; refine Kd.R_append_rows (Kd.int .u8) (w0 := w) w.heap.size rfl (.tmp 64) (.tmp 65) 22 5 (.int .u8 0) 1 rfl Try.underlying22 info5 rfl (by decide) (by omega) v177 t176 l1 _ _ _ (fun _ => True) (fun _ => False) rfl rfl ?aO ?aR (fun _ _ h => h) (fun _ h => h.elim) ?aF ?aB ?aS ?aL ?_; (case aR => repeat (first | exact (Kd.C_below HR1.out HB.out) | (with_reducible refine Kd.C_alloc ?_ _) | (with_reducible refine Kd.C_drewN ?_ _) | (with_reducible refine Kd.C_drew ?_))); (case aB => exact (by repeat (first | (with_reducible first | exact HB.out | apply below_alloc | apply pw_below_drewN | apply below_drew1) | exact HB.out))); (case aF => exact (fun _ _ => trivial)); (case aO => exact (by (with_reducible repeat (first | apply Kd.R_alloc | apply Kd.R_drewN | apply Kd.R_drew)); exact HO178.out)); (case aS => exact (below_size (by repeat (first | (with_reducible first | exact HB.out | apply below_alloc | apply pw_below_drewN | apply below_drew1) | exact HB.out)))); (case aL => have := LMc22.out; omega); intro v180 w31 ho hb hg hat; rw [← Ny179.out] at ho; have n0_ := Aside0.mk (hb); have n1_ := Aside0.mk (ho); clear HB; clear HO178; have HB := n0_; have HO181 := n1_; clear n0_ n1_; clear ho hb hg hat; obtain ⟨Ao32, co32, eo32⟩ := Kd.R_slice HO181.out; subst eo32) | ((with_reducible refine gate_callee (f := 20) rfl ?_); refine goesL_ (some 67) rfl rfl Try.func20 (by kernel_rfl) rfl #[.int .i64 0, .int .i64 16, .bool true, .slice Ao32 y179.length co32] rfl (by (try simp only [List.map_toArray, List.map_cons, List.map_nil]); first | done | rfl | (simp only [List.length_drop, List.length_take]; rfl)) ?_; (with_reducible refine (sobriquetref01_Wrap.calls kj8 0 16 true _ _ y179 t182 _ ?side1 ?side2 A23.out).mono ?_); (case side1 => repeat (first | exact (Kd.R_reads' HO181.out).2.2 | (with_reducible refine Kd.C_alloc ?_ _) | (with_reducible refine Kd.C_drewN ?_ _) | (with_reducible refine Kd.C_drew ?_))); (case side2 => exact (Kd.R_reads' HO181.out).2.1); rintro e w33 ⟨v183, rfl, ho0, hb⟩; refine ⟨_, rfl, ?_⟩; have n0_ := Aside0.mk (Kd.R_elder' (by (with_reducible repeat (first | apply Kd.R_alloc | apply Kd.R_drewN | apply Kd.R_drew)); exact HO181.out) (Kd.R_base ho0) hb); have n1_ := Aside0.mk (Kd.R_lower (Kd.R_new' ho0 (Kd.R_lt (by (with_reducible repeat (first | apply Kd.R_alloc | apply Kd.R_drewN | apply Kd.R_drew)); exact HO181.out))) (below_size (by repeat (first | (with_reducible first | exact HB.out | apply below_alloc | apply pw_below_drewN | apply below_drew1) | exact HB.out)))); have n2_ := Aside0.mk (below_step (by repeat (first | (with_reducible first | exact HB.out | apply below_alloc | apply pw_below_drewN | apply below_drew1) | exact HB.out)) hb); clear HO181; clear HB; have HO181 := n0_; have HO184 := n1_; have HB := n2_; clear n0_ n1_ n2_; (try clear hb); (try clear hb2); (try clear hk); (try clear hi); (try clear ho0); obtain ⟨Ao34, co34, eo34⟩ := Kd.R_slice HO184.out; subst eo34) | ((with_reducible refine gate_callee (f := 22) rfl ?_); refine goesL_ (some 70) rfl rfl Try.func22 (by kernel_rfl) rfl #[.slice Ao34 t182.length co34] rfl (by (try simp only [List.map_toArray, List.map_cons, List.map_nil]); first | done | rfl | (simp only [List.length_drop, List.length_take]; rfl)) ?_; (with_reducible refine (tlv_Read.calls kj8 _ _ t182 t185 t186 t187 t188 t189 t190 _ ?side1 ?side2 A24.out).mono ?_); (case side1 => repeat (first | exact (Kd.R_reads' HO184.out).2.2 | (with_reducible refine Kd.C_alloc ?_ _) | (with_reducible refine Kd.C_drewN ?_ _) | (with_reducible refine Kd.C_drew ?_))); (case side2 => exact (Kd.R_reads' HO184.out).2.1); rintro e w35 ⟨rfl, hb⟩; refine ⟨_, rfl, ?_⟩; have n0_ := Aside0.mk (Kd.R_below (by (with_reducible repeat (first | apply Kd.R_alloc | apply Kd.R_drewN | apply Kd.R_drew)); exact HO181.out) hb); have n1_ := Aside0.mk (Kd.R_below (by (with_reducible repeat (first | apply Kd.R_alloc | apply Kd.R_drewN | apply Kd.R_drew)); exact HO184.out) hb); have n2_ := Aside0.mk (below_step (by repeat (first | (with_reducible first | exact HB.out | apply below_alloc | apply pw_below_drewN | apply below_drew1) | exact HB.out)) hb); clear HO181; clear HO184; clear HB; have HO181 := n0_; have HO184 := n1_; have HB := n2_; clear n0_ n1_ n2_; (try clear hb); (try clear hb2); (try clear hk); (try clear hi)) | ((with_reducible refine gate_dst (N := 12) rfl ?_); (try (refine gate_guard (by rfl) ?_; dsimp only)); refine box_event ?hg (N := 12) ?hd (cs := #[.int .i64 0, .int .i64 0, .bool false, .int .i64 0, .int .i64 0]) (t := 35) ?hr ?_; (case hd => rfl); (case hg => rfl); (case hr => first | (go_simp; done) | (go_simp; rfl)); intro gb191 hg w36 hbox hb; have n0_ := Aside0.mk (Kd.R_below (by (with_reducible repeat (first | apply Kd.R_alloc | apply Kd.R_drewN | apply Kd.R_drew)); exact HO181.out) hb); have n1_ := Aside0.mk (Kd.R_below (by (with_reducible repeat (first | apply Kd.R_alloc | apply Kd.R_drewN | apply Kd.R_drew)); exact HO184.out) hb); have n2_ := Aside0.mk (below_step (by repeat (first | (with_reducible first | exact HB.out | apply below_alloc | apply pw_below_drewN | apply below_drew1) | exact HB.out)) hb); have n3_ := Aside0.mk (hbox); have n4_ := Aside0.mk ((by rw [hg]; exact (below_size (by repeat (first | (with_reducible first | exact HB.out | apply below_alloc | apply pw_below_drewN | apply below_drew1) | exact HB.out))) : w.heap.size ≤ gb191)); have n5_ := Aside0.mk ((by rw [hg]; exact (below_size (by repeat (first | (with_reducible first | exact HB.out | apply below_alloc | apply pw_below_drewN | apply below_drew1) | exact HB.out))) : w.heap.size ≤ gb191)); clear HO181; clear HO184; clear HB; have HO181 := n0_; have HO184 := n1_; have HB := n2_; have BK191 := n3_; have GW191 := n4_; have GE191 := n5_; clear n0_ n1_ n2_ n3_ n4_ n5_; clear hb hbox hg; have hcz37_0 : w36.cell? ⟨gb191, 0, none⟩ = some (.int .i64 0) := (blk_cell BK191.out 0).trans rfl; have hcz37_1 : w36.cell? ⟨gb191, 1, none⟩ = some (.int .i64 0) := (blk_cell BK191.out 1).trans rfl; have hcz37_2 : w36.cell? ⟨gb191, 2, none⟩ = some (.bool false) := (blk_cell BK191.out 2).trans rfl; have hcz37_3 : w36.cell? ⟨gb191, 3, none⟩ = some (.int .i64 0) := (blk_cell BK191.out 3).trans rfl; have hcz37_4 : w36.cell? ⟨gb191, 4, none⟩ = some (.int .i64 0) := (blk_cell BK191.out 4).trans rfl; have hfz37_0 := blk_frozen BK191.out 0; have hfz37_1 := blk_frozen BK191.out 1; have hfz37_2 := blk_frozen BK191.out 2; have hfz37_3 := blk_frozen BK191.out 3; have hfz37_4 := blk_frozen BK191.out 4) | ((with_reducible refine gate_callee (f := 11) rfl ?_); refine goesL_ (some 75) rfl rfl Try.func11 (by kernel_rfl) rfl #[.slice Ao34 t182.length co34] rfl (by (try simp only [List.map_toArray, List.map_cons, List.map_nil]); first | done | rfl | (simp only [List.length_drop, List.length_take]; rfl)) ?_; (with_reducible refine (well_Check.calls kj8 _ _ t182 t192 t193 _ ?side1 ?side2 A25.out).mono ?_); (case side1 => refine (Kd.R_reads' (e := 5) (base := w.heap.size) (ok := fun k_ => (True ∧ some k_ ≠ (.slice Ao32 y179.length co32 : Value).ownBlock)) (n := t182.length) (c := co34) ?_).2.2; exact (by (with_reducible repeat (first | apply Kd.R_alloc | apply Kd.R_drewN | apply Kd.R_drew)); exact (Kd.R_mono (Kd.R_far (p := ⟨gb191, 4, none⟩) (Kd.R_far (p := ⟨gb191, 3, none⟩) (Kd.R_far (p := ⟨gb191, 2, none⟩) (Kd.R_far (p := ⟨gb191, 1, none⟩) (Kd.R_far (p := ⟨gb191, 0, none⟩) (Kd.R_types HO184.out BK191.out (by decide)) (fun _ hk => hk.2) (.int .i64 t185)) (fun _ hk => hk.2) (.int .i64 t186)) (fun _ hk => hk.2) (.bool t187)) (fun _ hk => hk.2) (.int .i64 t188)) (fun _ hk => hk.2) (.int .i64 t189)) (fun _ h_ => h_.1)))); (case side2 => exact (Kd.R_reads' HO184.out).2.1); rintro e w38 ⟨rfl, hb⟩; refine ⟨_, rfl, ?_⟩; have n0_ := Aside0.mk (Kd.R_below (by (with_reducible repeat (first | apply Kd.R_alloc | apply Kd.R_drewN | apply Kd.R_drew)); exact (Kd.R_mono (Kd.R_far (p := ⟨gb191, 4, none⟩) (Kd.R_far (p := ⟨gb191, 3, none⟩) (Kd.R_far (p := ⟨gb191, 2, none⟩) (Kd.R_far (p := ⟨gb191, 1, none⟩) (Kd.R_far (p := ⟨gb191, 0, none⟩) (Kd.R_types HO181.out BK191.out (by decide)) (fun _ hk => hk.2) (.int .i64 t185)) (fun _ hk => hk.2) (.int .i64 t186)) (fun _ hk => hk.2) (.bool t187)) (fun _ hk => hk.2) (.int .i64 t188)) (fun _ hk => hk.2) (.int .i64 t189)) (fun _ h_ => h_.1))) hb); have n1_ := Aside0.mk (Kd.R_below (by (with_reducible repeat (first | apply Kd.R_alloc | apply Kd.R_drewN | apply Kd.R_drew)); exact (Kd.R_mono (Kd.R_far (p := ⟨gb191, 4, none⟩) (Kd.R_far (p := ⟨gb191, 3, none⟩) (Kd.R_far (p := ⟨gb191, 2, none⟩) (Kd.R_far (p := ⟨gb191, 1, none⟩) (Kd.R_far (p := ⟨gb191, 0, none⟩) (Kd.R_types HO184.out BK191.out (by decide)) (fun _ hk => hk.2) (.int .i64 t185)) (fun _ hk => hk.2) (.int .i64 t186)) (fun _ hk => hk.2) (.bool t187)) (fun _ hk => hk.2) (.int .i64 t188)) (fun _ hk => hk.2) (.int .i64 t189)) (fun _ h_ => h_.1))) hb); have n2_ := Aside0.mk (blk_below (g := gb191) (o := .cells #[.int .i64 t185, .int .i64 t186, .bool t187, .int .i64 t188, .int .i64 t189] 35 (0, 0)) (by (with_reducible repeat (first | refine blk_drewN ?_ _ | refine blk_drew ?_ | refine blk_alloc ?_ _)); refine blk_put (cs := #[.int .i64 t185, .int .i64 t186, .bool t187, .int .i64 t188, .int .i64 0]) ?_ 4 _ rfl; (with_reducible repeat (first | refine blk_drewN ?_ _ | refine blk_drew ?_ | refine blk_alloc ?_ _)); refine blk_put (cs := #[.int .i64 t185, .int .i64 t186, .bool t187, .int .i64 0, .int .i64 0]) ?_ 3 _ rfl; (with_reducible repeat (first | refine blk_drewN ?_ _ | refine blk_drew ?_ | refine blk_alloc ?_ _)); refine blk_put (cs := #[.int .i64 t185, .int .i64 t186, .bool false, .int .i64 0, .int .i64 0]) ?_ 2 _ rfl; (with_reducible repeat (first | refine blk_drewN ?_ _ | refine blk_drew ?_ | refine blk_alloc ?_ _)); refine blk_put (cs := #[.int .i64 t185, .int .i64 0, .bool false, .int .i64 0, .int .i64 0]) ?_ 1 _ rfl; (with_reducible repeat (first | refine blk_drewN ?_ _ | refine blk_drew ?_ | refine blk_alloc ?_ _)); refine blk_put (cs := #[.int .i64 0, .int .i64 0, .bool false, .int .i64 0, .int .i64 0]) ?_ 0 _ rfl; (with_reducible repeat (first | refine blk_drewN ?_ _ | refine blk_drew ?_ | refine blk_alloc ?_ _)); exact BK191.out) hb); have n3_ := Aside0.mk (below_step (by repeat (first | (with_reducible first | exact HB.out | apply below_alloc | apply pw_below_drewN | apply below_drew1 | refine below_set ?_ GE191.out) | exact HB.out)) hb); clear HO181; clear HO184; clear BK191; clear HB; have HO181 := n0_; have HO184 := n1_; have BK191 := n2_; have HB := n3_; clear n0_ n1_ n2_ n3_; (try clear hb); (try clear hb2); (try clear hk); (try clear hi); have hcz39_0 : w38.cell? ⟨gb191, 0, none⟩ = some (.int .i64 t185) := (blk_cell BK191.out 0).trans rfl; have hcz39_1 : w38.cell? ⟨gb191, 1, none⟩ = some (.int .i64 t186) := (blk_cell BK191.out 1).trans rfl; have hcz39_2 : w38.cell? ⟨gb191, 2, none⟩ = some (.bool t187) := (blk_cell BK191.out 2).trans rfl; have hcz39_3 : w38.cell? ⟨gb191, 3, none⟩ = some (.int .i64 t188) := (blk_cell BK191.out 3).trans rfl; have hcz39_4 : w38.cell? ⟨gb191, 4, none⟩ = some (.int .i64 t189) := (blk_cell BK191.out 4).trans rfl; have hfz39_0 := blk_frozen BK191.out 0; have hfz39_1 := blk_frozen BK191.out 1; have hfz39_2 := blk_frozen BK191.out 2; have hfz39_3 := blk_frozen BK191.out 3; have hfz39_4 := blk_frozen BK191.out 4) | (go_at_call 16; (with_reducible refine (sobriquetlaw02_wakes.calls kj8  t194 _ A29.out (by first | exact hrt.out | rfl)).mono ?_); rintro e w40 ⟨rfl, hb⟩; have n0_ := Aside0.mk (Kd.R_below (by (with_reducible repeat (first | apply Kd.R_alloc | apply Kd.R_drewN | apply Kd.R_drew)); exact HO181.out) hb); have n1_ := Aside0.mk (Kd.R_below (by (with_reducible repeat (first | apply Kd.R_alloc | apply Kd.R_drewN | apply Kd.R_drew)); exact HO184.out) hb); have n2_ := Aside0.mk (blk_below (g := gb191) (o := .cells #[.int .i64 t185, .int .i64 t186, .bool t187, .int .i64 t188, .int .i64 t189] 35 (0, 0)) (by (with_reducible repeat (first | refine blk_drewN ?_ _ | refine blk_drew ?_ | refine blk_alloc ?_ _)); exact BK191.out) hb); have n3_ := Aside0.mk (below_step (by repeat (first | (with_reducible first | exact HB.out | apply below_alloc | apply pw_below_drewN | apply below_drew1 | refine below_set ?_ GE191.out) | exact HB.out)) hb); clear HO181; clear HO184; clear BK191; clear HB; have HO181 := n0_; have HO184 := n1_; have BK191 := n2_; have HB := n3_; clear n0_ n1_ n2_ n3_; (try clear hb); (try clear hb2); (try clear hk); (try clear hi)))
                      go_ret
                      exact ⟨by first | rfl | (simp [errW_none, errW_some] <;> rfl) | (simp [*, errW_none, errW_some] <;> rfl), by repeat (first | (with_reducible first | exact HB.out | apply below_alloc | apply pw_below_drewN | apply below_drew1 | refine below_set ?_ GE191.out) | exact HB.out)⟩
                    · rw [if_neg c28] at H
                      have c28b0 : (t192 == (wrap64 ((wrap64 (t189 + (l0.length : Int))) + t173))) = false := beq_eq_false_iff_ne.mpr c28
                      have c28b1 : (t192 != (wrap64 ((wrap64 (t189 + (l0.length : Int))) + t173))) = true := bne_iff_ne.mpr c28
                      exact absurd ((Option.some.inj H).trans hrt.out) (by decide)
                  · rw [if_neg c27] at H
                    have c27b0 : (t193 == t174) = false := beq_eq_false_iff_ne.mpr c27
                    have c27b1 : (t193 != t174) = true := bne_iff_ne.mpr c27
                    exact absurd ((Option.some.inj H).trans hrt.out) (by decide)
                · rw [if_neg c26] at H
                  have c26b0 : (t190 == 0) = false := beq_eq_false_iff_ne.mpr c26
                  have c26b1 : (t190 != 0) = true := bne_iff_ne.mpr c26
                  exact absurd ((Option.some.inj H).trans hrt.out) (by decide)
              · rw [if_neg c22] at H
                exact absurd H (by simp)

/-- THE ONE PURE STATEMENT of sobriquetlaw02_WellInside: yours. -/
def sobriquetlaw02_WellInside.Pure : Prop := ∀ (l0 : List Int) (l1 : List Int), l0.length ≤ maxLen → l0.length * 1 ≤ 140737488351232 → (∀ x ∈ l0, (Lit.int .u8 x).wf = true) → l1.length ≤ maxLen → l1.length * 1 ≤ 140737488351232 → (∀ x ∈ l1, (Lit.int .u8 x).wf = true) → ∃ k, sobriquetlaw02_WellInside.f k l0 l1 = some true
theorem sobriquetlaw02_WellInside.walk (P : sobriquetlaw02_WellInside.Pure) (a0 : Option Addr) (len0 cap0 : Nat) (z0 : List Int) (a1 : Option Addr) (len1 cap1 : Nat) (z1 : List Int) (w : World) (w0 : (a0 = none ∧ len0 = 0 ∧ cap0 = 0 ∧ z0 = []) ∨ ∃ x, a0 = some x ∧ len0 ≤ cap0 ∧ cap0 ≤ maxLen ∧ z0.length = cap0 ∧ (∀ i, i < z0.length → w.cell? (x.add i) = some (.int .u8 (z0.getD i 0))) ∧ ∀ n ∈ z0, (Lit.int .u8 n).wf = true) (y0 : len0 * 1 ≤ 140737488351232) (w1 : (a1 = none ∧ len1 = 0 ∧ cap1 = 0 ∧ z1 = []) ∨ ∃ x, a1 = some x ∧ len1 ≤ cap1 ∧ cap1 ≤ maxLen ∧ z1.length = cap1 ∧ (∀ i, i < z1.length → w.cell? (x.add i) = some (.int .u8 (z1.getD i 0))) ∧ ∀ n ∈ z1, (Lit.int .u8 n).wf = true) (y1 : len1 * 1 ≤ 140737488351232) :
    Calls Try.prog 9 #[.slice a0 len0 cap0, .slice a1 len1 cap1] w fun e w' => e = .returned (.bool true) ∧ Below w.heap.size w w' := by
  obtain ⟨l0, rfl, hr0, hm0, hw0, hc0⟩ := ReadsInt.ofRowC w0
  obtain ⟨l1, rfl, hr1, hm1, hw1, hc1⟩ := ReadsInt.ofRowC w1
  obtain ⟨k, h⟩ := P l0 l1 hm0 y0 hw0 hm1 y1 hw1
  refine (sobriquetlaw02_WellInside.calls k _ _ l0 _ _ l1 true w (Kd.C_of_reads (d := (0 : Int)) (h1 := fun _ => rfl) hr0) hc0 (Kd.C_of_reads (d := (0 : Int)) (h1 := fun _ => rfl) hr1) hc1 h rfl).mono ?_
  rintro e w' ⟨rfl, hd⟩
  exact ⟨rfl, hd⟩

end Go.Proofs.Ytogbpdmncnldhaa.MWellInside
