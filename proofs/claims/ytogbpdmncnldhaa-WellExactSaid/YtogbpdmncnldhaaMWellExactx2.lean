-- Written by a program of this session over the translation; checked by Lean alone.
import Derived.Test.YtogbpdmncnldhaaMWellExactx0
import Derived.Test.YtogbpdmncnldhaaMWellExactx1
namespace Go.Proofs.Ytogbpdmncnldhaa.MWellExact
open Go.RowKit Go.Proofs.YtogbpdmncnldhaaW.PrintWords Go.Proofs.YtogbpdmncnldhaaW.PrintLast Go.Proofs.YtogbpdmncnldhaaW.PrintMore
attribute [local go_sem] max2_int min2_int max_two min_two max_three min_three max_four min_four   -- for this text's walks alone
set_option linter.unusedVariables false
set_option linter.unusedSimpArgs false
set_option linter.unnecessarySimpa false

/-! ### sobriquetref01_Well: function 14 -/
mutual
def sobriquetref01_Well.l0 : Nat → List Int → List Int → Int → Int → Option (Int × Int × Int)
  | 0, _, _, _, _ => none
  | k + 1, x0, x5, x6, x7 => sobriquetref01_Well.l1 k x0 x5 x6 x7
def sobriquetref01_Well.l1 : Nat → List Int → List Int → Int → Int → Option (Int × Int × Int)
  | 0, _, _, _, _ => none
  | k + 1, x0, x5, x6, x7 => if (x5.length : Int) > 0 then (if 0 ≤ (wrap64 ((x5.length : Int) - 1)) then (if (wrap64 ((x5.length : Int) - 1)) < (x5.length : Int) then (sobriquetref01_Well.j2 k x0 x5 x6 x7 ((rd x5 (wrap64 ((x5.length : Int) - 1))) == x6)) else (none)) else (none)) else (sobriquetref01_Well.j2 k x0 x5 x6 x7 false)
def sobriquetref01_Well.j2 : Nat → List Int → List Int → Int → Int → Bool → Option (Int × Int × Int)
  | 0, _, _, _, _, _ => none
  | k + 1, x0, x5, x6, x7, x23 => if x23 = true then (if 0 ≤ (wrap64 ((x5.length : Int) - 1)) then (if (wrap64 ((x5.length : Int) - 1)) ≤ (x5.length : Int) then ((some (x5.take ((wrap64 ((x5.length : Int) - 1)) : Int).toNat : List Int)).bind fun y106 => (if (y106.length : Int) = 0 then (if x6 < (x0.length : Int) then (some (x6, 5, 0)) else (some (0, 0, x7))) else (sobriquetref01_Well.l1 k x0 y106 x6 x7))) else (none)) else (none)) else (if (x5.length : Int) > 0 then (if 0 ≤ (wrap64 ((x5.length : Int) - 1)) then (if (wrap64 ((x5.length : Int) - 1)) < (x5.length : Int) then (sobriquetref01_Well.j3 k x0 x5 x6 x7 (rd x5 (wrap64 ((x5.length : Int) - 1)))) else (none)) else (none)) else (sobriquetref01_Well.j3 k x0 x5 x6 x7 (x0.length : Int)))
def sobriquetref01_Well.j3 : Nat → List Int → List Int → Int → Int → Int → Option (Int × Int × Int)
  | 0, _, _, _, _, _ => none
  | k + 1, x0, x5, x6, x7, x8 => if (x5.length : Int) ≥ 32 then (some (x6, 6, 0)) else (if 0 ≤ x6 then (if x6 ≤ x8 then (if x8 ≤ (x0.length : Int) then ((sobriquetref01_Read.f k ((x0.take (x8 : Int).toNat).drop (x6 : Int).toNat)).bind fun bt111 => (if bt111.2.2.2.2.2 = 0 then (if bt111.1 = 0 then (sobriquetref01_Well.j4 k x0 x5 x6 x7 x8 (bt111.2.1 == 0) bt111.1 bt111.2.1 bt111.2.2.1 bt111.2.2.2.1 bt111.2.2.2.2.1) else (sobriquetref01_Well.j4 k x0 x5 x6 x7 x8 false bt111.1 bt111.2.1 bt111.2.2.1 bt111.2.2.2.1 bt111.2.2.2.2.1)) else (some (x6, bt111.2.2.2.2.2, 0)))) else (none)) else (none)) else (none))
def sobriquetref01_Well.j4 : Nat → List Int → List Int → Int → Int → Int → Bool → Int → Int → Bool → Int → Int → Option (Int × Int × Int)
  | 0, _, _, _, _, _, _, _, _, _, _, _ => none
  | k + 1, x0, x5, x6, x7, x8, x72, x118000, x118001, x118002, x118003, x118004 => if x72 = true then (some (x6, 3, 0)) else ((sobriquetref01_right.f x118000 x118001 x118002 x118003 x118004).bind fun t118 => (if t118 = true then (if (wrap64 ((wrap64 (x8 - x6)) - x118004)) < x118003 then (some (x6, 2, 0)) else (if x118002 = true then (if x5.length < 17592186044416 then (sobriquetref01_Well.l0 k x0 (x5 ++ [wrap64 ((wrap64 (x6 + x118004)) + x118003)]) (wrap64 (x6 + x118004)) (mx x7 (wrap64 ((x5.length : Int) + 1)))) else (none)) else (if (x5.length : Int) = 0 then (if (wrap64 ((wrap64 (x6 + x118004)) + x118003)) < (x0.length : Int) then (some (wrap64 ((wrap64 (x6 + x118004)) + x118003), 5, 0)) else (some (0, 0, mx x7 (wrap64 ((x5.length : Int) + 1))))) else (sobriquetref01_Well.l0 k x0 x5 (wrap64 ((wrap64 (x6 + x118004)) + x118003)) (mx x7 (wrap64 ((x5.length : Int) + 1))))))) else (some (x6, 7, 0))))
end
def sobriquetref01_Well.f (k : Nat) (l0 : List Int) : Option (Int × Int × Int) := sobriquetref01_Well.l0 k l0 ([] : List Int) 0 0
theorem sobriquetref01_Well.mono_l : ∀ k, (∀ y0 y1 y2 y3, LeO (sobriquetref01_Well.l0 k y0 y1 y2 y3) (sobriquetref01_Well.l0 (k + 1) y0 y1 y2 y3)) ∧ (∀ y0 y1 y2 y3, LeO (sobriquetref01_Well.l1 k y0 y1 y2 y3) (sobriquetref01_Well.l1 (k + 1) y0 y1 y2 y3)) ∧ (∀ y0 y1 y2 y3 y4, LeO (sobriquetref01_Well.j2 k y0 y1 y2 y3 y4) (sobriquetref01_Well.j2 (k + 1) y0 y1 y2 y3 y4)) ∧ (∀ y0 y1 y2 y3 y4, LeO (sobriquetref01_Well.j3 k y0 y1 y2 y3 y4) (sobriquetref01_Well.j3 (k + 1) y0 y1 y2 y3 y4)) ∧ (∀ y0 y1 y2 y3 y4 y5 y6 y7 y8 y9 y10, LeO (sobriquetref01_Well.j4 k y0 y1 y2 y3 y4 y5 y6 y7 y8 y9 y10) (sobriquetref01_Well.j4 (k + 1) y0 y1 y2 y3 y4 y5 y6 y7 y8 y9 y10))
  | 0 => ⟨fun _ _ _ _ r h => by simp [sobriquetref01_Well.l0] at h, fun _ _ _ _ r h => by simp [sobriquetref01_Well.l1] at h, fun _ _ _ _ _ r h => by simp [sobriquetref01_Well.j2] at h, fun _ _ _ _ _ r h => by simp [sobriquetref01_Well.j3] at h, fun _ _ _ _ _ _ _ _ _ _ _ r h => by simp [sobriquetref01_Well.j4] at h⟩
  | k + 1 => by
    obtain ⟨ih0, ih1, ih2, ih3, ih4⟩ := sobriquetref01_Well.mono_l k
    refine ⟨?_, ?_, ?_, ?_, ?_⟩
    · intro y0 y1 y2 y3
      unfold sobriquetref01_Well.l0
      repeat' first
      | (with_reducible exact ih0 _ _ _ _)
      | (with_reducible exact ih1 _ _ _ _)
      | (with_reducible exact ih2 _ _ _ _ _)
      | (with_reducible exact ih3 _ _ _ _ _)
      | (with_reducible exact ih4 _ _ _ _ _ _ _ _ _ _ _)
      | (with_reducible exact sobriquetref01_Read.mono _ _)
      | (with_reducible exact LeO.refl _)
      | (with_reducible exact LeO.none _)
      | (with_reducible refine LeO.ite ?_ ?_)
      | (with_reducible refine LeO.bind ?_ (fun _ => ?_))
      | exact ih0 _ _ _ _
      | exact ih1 _ _ _ _
      | exact ih2 _ _ _ _ _
      | exact ih3 _ _ _ _ _
      | exact ih4 _ _ _ _ _ _ _ _ _ _ _
      | exact sobriquetref01_Read.mono _ _
      | exact LeO.none _
      | refine LeO.ite ?_ ?_
      | refine LeO.bind ?_ (fun _ => ?_)
    · intro y0 y1 y2 y3
      unfold sobriquetref01_Well.l1
      repeat' first
      | (with_reducible exact ih0 _ _ _ _)
      | (with_reducible exact ih1 _ _ _ _)
      | (with_reducible exact ih2 _ _ _ _ _)
      | (with_reducible exact ih3 _ _ _ _ _)
      | (with_reducible exact ih4 _ _ _ _ _ _ _ _ _ _ _)
      | (with_reducible exact sobriquetref01_Read.mono _ _)
      | (with_reducible exact LeO.refl _)
      | (with_reducible exact LeO.none _)
      | (with_reducible refine LeO.ite ?_ ?_)
      | (with_reducible refine LeO.bind ?_ (fun _ => ?_))
      | exact ih0 _ _ _ _
      | exact ih1 _ _ _ _
      | exact ih2 _ _ _ _ _
      | exact ih3 _ _ _ _ _
      | exact ih4 _ _ _ _ _ _ _ _ _ _ _
      | exact sobriquetref01_Read.mono _ _
      | exact LeO.none _
      | refine LeO.ite ?_ ?_
      | refine LeO.bind ?_ (fun _ => ?_)
    · intro y0 y1 y2 y3 y4
      unfold sobriquetref01_Well.j2
      repeat' first
      | (with_reducible exact ih0 _ _ _ _)
      | (with_reducible exact ih1 _ _ _ _)
      | (with_reducible exact ih2 _ _ _ _ _)
      | (with_reducible exact ih3 _ _ _ _ _)
      | (with_reducible exact ih4 _ _ _ _ _ _ _ _ _ _ _)
      | (with_reducible exact sobriquetref01_Read.mono _ _)
      | (with_reducible exact LeO.refl _)
      | (with_reducible exact LeO.none _)
      | (with_reducible refine LeO.ite ?_ ?_)
      | (with_reducible refine LeO.bind ?_ (fun _ => ?_))
      | exact ih0 _ _ _ _
      | exact ih1 _ _ _ _
      | exact ih2 _ _ _ _ _
      | exact ih3 _ _ _ _ _
      | exact ih4 _ _ _ _ _ _ _ _ _ _ _
      | exact sobriquetref01_Read.mono _ _
      | exact LeO.none _
      | refine LeO.ite ?_ ?_
      | refine LeO.bind ?_ (fun _ => ?_)
    · intro y0 y1 y2 y3 y4
      unfold sobriquetref01_Well.j3
      repeat' first
      | (with_reducible exact ih0 _ _ _ _)
      | (with_reducible exact ih1 _ _ _ _)
      | (with_reducible exact ih2 _ _ _ _ _)
      | (with_reducible exact ih3 _ _ _ _ _)
      | (with_reducible exact ih4 _ _ _ _ _ _ _ _ _ _ _)
      | (with_reducible exact sobriquetref01_Read.mono _ _)
      | (with_reducible exact LeO.refl _)
      | (with_reducible exact LeO.none _)
      | (with_reducible refine LeO.ite ?_ ?_)
      | (with_reducible refine LeO.bind ?_ (fun _ => ?_))
      | exact ih0 _ _ _ _
      | exact ih1 _ _ _ _
      | exact ih2 _ _ _ _ _
      | exact ih3 _ _ _ _ _
      | exact ih4 _ _ _ _ _ _ _ _ _ _ _
      | exact sobriquetref01_Read.mono _ _
      | exact LeO.none _
      | refine LeO.ite ?_ ?_
      | refine LeO.bind ?_ (fun _ => ?_)
    · intro y0 y1 y2 y3 y4 y5 y6 y7 y8 y9 y10
      unfold sobriquetref01_Well.j4
      repeat' first
      | (with_reducible exact ih0 _ _ _ _)
      | (with_reducible exact ih1 _ _ _ _)
      | (with_reducible exact ih2 _ _ _ _ _)
      | (with_reducible exact ih3 _ _ _ _ _)
      | (with_reducible exact ih4 _ _ _ _ _ _ _ _ _ _ _)
      | (with_reducible exact sobriquetref01_Read.mono _ _)
      | (with_reducible exact LeO.refl _)
      | (with_reducible exact LeO.none _)
      | (with_reducible refine LeO.ite ?_ ?_)
      | (with_reducible refine LeO.bind ?_ (fun _ => ?_))
      | exact ih0 _ _ _ _
      | exact ih1 _ _ _ _
      | exact ih2 _ _ _ _ _
      | exact ih3 _ _ _ _ _
      | exact ih4 _ _ _ _ _ _ _ _ _ _ _
      | exact sobriquetref01_Read.mono _ _
      | exact LeO.none _
      | refine LeO.ite ?_ ?_
      | refine LeO.bind ?_ (fun _ => ?_)
theorem sobriquetref01_Well.mono : ∀ a0 k, LeO (sobriquetref01_Well.f k a0) (sobriquetref01_Well.f (k + 1) a0) := by
  intro a0 k
  obtain ⟨ih0, ih1, ih2, ih3, ih4⟩ := sobriquetref01_Well.mono_l k
  unfold sobriquetref01_Well.f
  repeat' first
      | (with_reducible exact ih0 _ _ _ _)
      | (with_reducible exact ih1 _ _ _ _)
      | (with_reducible exact ih2 _ _ _ _ _)
      | (with_reducible exact ih3 _ _ _ _ _)
      | (with_reducible exact ih4 _ _ _ _ _ _ _ _ _ _ _)
      | (with_reducible exact sobriquetref01_Read.mono _ _)
      | (with_reducible exact LeO.refl _)
      | (with_reducible exact LeO.none _)
      | (with_reducible refine LeO.ite ?_ ?_)
      | (with_reducible refine LeO.bind ?_ (fun _ => ?_))
      | exact ih0 _ _ _ _
      | exact ih1 _ _ _ _
      | exact ih2 _ _ _ _ _
      | exact ih3 _ _ _ _ _
      | exact ih4 _ _ _ _ _ _ _ _ _ _ _
      | exact sobriquetref01_Read.mono _ _
      | exact LeO.none _
      | refine LeO.ite ?_ ?_
      | refine LeO.bind ?_ (fun _ => ?_)
set_option maxHeartbeats 8000000 in
set_option maxRecDepth 100000 in
theorem sobriquetref01_Well.calls (k : Nat) (A0 : Option Addr) (c0 : Nat) (l0 : List Int) (r1 : Int) (r2 : Int) (r3 : Int) (w : World) (hr0 : Kd.C (Kd.int .u8) w A0 l0.length l0) (hc0 : l0.length ≤ c0) (h : sobriquetref01_Well.f k l0 = some (r1, r2, r3)) :
    Calls Try.prog 14 #[.slice A0 l0.length c0] w fun e w' => e = .returned (.tuple #[.int .i64 r1, .int .i64 r2, .int .i64 r3]) ∧ Below w.heap.size w w' := by
  have hu35 := Try.underlying35
  have HR0 := Aside0.mk hr0
  have HC0 := Aside0.mk hc0
  clear hr0 hc0
  have HB := Aside0.mk (Below.refl w.heap.size w)
  have H : (sobriquetref01_Well.l0 k l0 ([] : List Int) 0 0) = some (r1, r2, r3) := h
  clear h
  have H' := Aside0.mk H
  clear H
  go_enter Try.func14, Try.ntmps14
  go_wp2
  go_loopg [5, 6, 7] k (fun kq v5 v6 v7 w' => ∃ (x5_1 : List Int) (x6_1 : Int) (x7_1 : Int), v6 = .int .i64 x6_1 ∧ v7 = .int .i64 x7_1 ∧ Aside0 (sobriquetref01_Well.l0 kq l0 x5_1 x6_1 x7_1 = some (r1, r2, r3)) ∧ Aside0 (kq ≤ k) ∧ Aside0 (Kd.R (Kd.int .i64) 3 w' w.heap.size (fun _ => True) v5 x5_1) ∧ Aside0 (Below w.heap.size w w'))
  case atStart => exact ⟨(([] : List Int)), (0), (0), (by first | rfl | (simp; done) | (simp [*]; done)), (by first | rfl | (simp; done) | (simp [*]; done)), H', ⟨Nat.le_refl _⟩, ⟨by first | exact Kd.R_nil _ _ _ _ _ | exact Kd.N_nil _ _ _ _ _ | exact Kd.V_nil _ _ _ _ _ | exact Kd.Q_nil _ _ _ _ _ | exact Kd.S_nil _ _ _ _ _⟩, ⟨by repeat (first | (with_reducible first | exact HB.out | apply below_alloc | apply pw_below_drewN | apply below_drew1) | exact HB.out)⟩⟩
  case round =>
    clear H'
    try clear c1
    obtain ⟨x5_1, x6_1, x7_1, rfl, rfl, HA, HK1, HO_5, HB⟩ := hrel
    cases gk with
    | zero => exact absurd HA.out (by simp [sobriquetref01_Well.l0])
    | succ k1 =>
      have H := HA.out
      clear HA
      simp only [sobriquetref01_Well.l0] at H
      have H' := Aside0.mk H
      clear H
      go_wp2
      go_loopg [5] k1 (fun kq v5 w' => ∃ (x5_2 : List Int), Aside0 (sobriquetref01_Well.l1 kq l0 x5_2 x6_1 x7_1 = some (r1, r2, r3)) ∧ Aside0 (kq ≤ k1) ∧ Aside0 (Kd.R (Kd.int .i64) 3 w' w.heap.size (fun _ => True) v5 x5_2) ∧ Aside0 (Below w.heap.size w w'))
      case atStart => exact ⟨(x5_1), H', ⟨Nat.le_refl _⟩, ⟨by (with_reducible repeat (first | apply Kd.R_alloc | apply Kd.R_drewN | apply Kd.R_drew)); exact HO_5.out⟩, ⟨by repeat (first | (with_reducible first | exact HB.out | apply below_alloc | apply pw_below_drewN | apply below_drew1) | exact HB.out)⟩⟩
      case round =>
        clear H'
        try clear c1
        obtain ⟨x5_2, HA, HK2, HO_5, HB⟩ := hrel
        cases gk with
        | zero => exact absurd HA.out (by simp [sobriquetref01_Well.l1])
        | succ k2 =>
          have H := HA.out
          clear HA
          simp only [sobriquetref01_Well.l1] at H
          have HC2 := Aside0.mk H
          clear H
          go_upto_region 3 with (fail)
          go_cut [23] (fun v23 wc => ∃ (kq : Nat) (x23_1 : Bool), v23 = .bool x23_1 ∧ Aside0 (sobriquetref01_Well.j2 kq l0 x5_2 x6_1 x7_1 x23_1 = some (r1, r2, r3)) ∧ Aside0 (kq ≤ k2) ∧ Aside0 (Kd.R (Kd.int .i64) 3 wc w.heap.size (fun _ => True) u5 x5_2) ∧ Aside0 (Below w.heap.size w wc))
          case first =>
            have H := HC2.out
            clear HC2
            by_cases c3 : (x5_2.length : Int) > 0
            · rw [if_pos c3] at H
              have c3b0 : decide (0 < (x5_2.length : Int)) = true := decide_eq_true c3
              have c3b1 : decide (0 < x5_2.length) = true := decide_eq_true (by omega)
              clear c3
              (first | rw [c3b0] | (simp only [i64_w, i32_w]; rw [c3b0]) | skip)
              obtain ⟨ji4, hji4⟩ : ∃ j_ : Int, (wrap64 ((x5_2.length : Int) - 1)) = j_ := ⟨_, rfl⟩
              replace H : (if 0 ≤ (ji4) then (if (ji4) < (x5_2.length : Int) then (sobriquetref01_Well.j2 k2 l0 x5_2 x6_1 x7_1 ((rd x5_2 (ji4)) == x6_1)) else (none)) else (none)) = some (r1, r2, r3) := by first | (rw [hji4] at H; exact H) | (simp only [hji4] at H ⊢; exact H)
              have hji4w : (IntKind.i64.wrap ((x5_2.length : Int) - 1)) = ji4 := (i64_w _).trans hji4
              by_cases c5 : 0 ≤ (ji4)
              · rw [if_pos c5] at H
                have c5b0 : decide (0 ≤ (ji4)) = true := decide_eq_true c5
                clear c5
                by_cases c6 : (ji4) < (x5_2.length : Int)
                · rw [if_pos c6] at H
                  have c6b0 : decide ((ji4) < (x5_2.length : Int)) = true := decide_eq_true c6
                  clear c6
                  have H' := Aside0.mk H
                  clear H
                  obtain ⟨Ao7, co7, eo7⟩ := Kd.R_slice HO_5.out
                  subst eo7
                  have p105 : 0 ≤ ((ji4) : Int) := of_decide_eq_true (by first | (with_reducible assumption) | assumption)
                  have q105 : (ji4) < (x5_2.length : Int) := of_decide_eq_true (by first | (with_reducible assumption) | assumption)
                  obtain ⟨ad105, e105, hx105_0⟩ := Kd.at_int (Kd.R_reads' HO_5.out).2.2 (ji4) p105 q105
                  cases e105
                  replace p105 := eq_true p105
                  replace q105 := eq_true q105
                  go_wp2
                  go_meet
                  case rel => exact ⟨_, (((rd x5_2 (ji4)) == x6_1)), (by first | rfl | (simp; done) | (simp only [← hji4] <;> (first | rfl | simp)) | (simp [*]; done)), H', ⟨by have := HK1.out; have := HK2.out; first | omega | exact Nat.le_refl _⟩, ⟨by (with_reducible repeat (first | apply Kd.R_alloc | apply Kd.R_drewN | apply Kd.R_drew)); exact HO_5.out⟩, ⟨by repeat (first | (with_reducible first | exact HB.out | apply below_alloc | apply pw_below_drewN | apply below_drew1) | exact HB.out)⟩⟩
                · rw [if_neg c6] at H
                  exact absurd H (by simp)
              · rw [if_neg c5] at H
                exact absurd H (by simp)
            · rw [if_neg c3] at H
              have c3b0 : decide (0 < (x5_2.length : Int)) = false := decide_eq_false c3
              have c3b1 : decide (0 < x5_2.length) = false := decide_eq_false (by omega)
              clear c3
              (first | rw [c3b0] | (simp only [i64_w, i32_w]; rw [c3b0]) | skip)
              have H' := Aside0.mk H
              clear H
              obtain ⟨Ao8, co8, eo8⟩ := Kd.R_slice HO_5.out
              subst eo8
              go_wp2
              go_meet
              case rel => exact ⟨_, (false), (by first | rfl | (simp; done) | (simp [*]; done)), H', ⟨by have := HK1.out; have := HK2.out; first | omega | exact Nat.le_refl _⟩, ⟨by (with_reducible repeat (first | apply Kd.R_alloc | apply Kd.R_drewN | apply Kd.R_drew)); exact HO_5.out⟩, ⟨by repeat (first | (with_reducible first | exact HB.out | apply below_alloc | apply pw_below_drewN | apply below_drew1) | exact HB.out)⟩⟩
          case rest =>
            clear HC2
            try clear c1
            try clear p1
            try clear q1
            try clear hx1
            try clear p2
            try clear c3
            try clear c3b0
            try clear c3b1
            try clear c5
            try clear c5b0
            try clear c6
            try clear c6b0
            try clear p6
            try clear hx105_0
            try clear p105
            try clear q105
            obtain ⟨kq, x23_1, rfl, HA, HJ1, HO_5, HB⟩ := hcut
            cases kq with
            | zero => exact absurd HA.out (by simp [sobriquetref01_Well.j2])
            | succ kj1 =>
              have H := HA.out
              clear HA
              simp only [sobriquetref01_Well.j2] at H
              by_cases c9 : x23_1 = true
              · subst c9
                have H1 : (if 0 ≤ (wrap64 ((x5_2.length : Int) - 1)) then (if (wrap64 ((x5_2.length : Int) - 1)) ≤ (x5_2.length : Int) then ((some (x5_2.take ((wrap64 ((x5_2.length : Int) - 1)) : Int).toNat : List Int)).bind fun y106 => (if (y106.length : Int) = 0 then (if x6_1 < (l0.length : Int) then (some (x6_1, 5, 0)) else (some (0, 0, x7_1))) else (sobriquetref01_Well.l1 kj1 l0 y106 x6_1 x7_1))) else (none)) else (none)) = some (r1, r2, r3) := by rw [if_pos rfl] at H; exact H
                clear H
                have H := H1
                clear H1
                obtain ⟨ji10, hji10⟩ : ∃ j_ : Int, (wrap64 ((x5_2.length : Int) - 1)) = j_ := ⟨_, rfl⟩
                replace H : (if 0 ≤ (ji10) then (if (ji10) ≤ (x5_2.length : Int) then ((some (x5_2.take ((ji10) : Int).toNat : List Int)).bind fun y106 => (if (y106.length : Int) = 0 then (if x6_1 < (l0.length : Int) then (some (x6_1, 5, 0)) else (some (0, 0, x7_1))) else (sobriquetref01_Well.l1 kj1 l0 y106 x6_1 x7_1))) else (none)) else (none)) = some (r1, r2, r3) := by first | (rw [hji10] at H; exact H) | (simp only [hji10] at H ⊢; exact H)
                have hji10w : (IntKind.i64.wrap ((x5_2.length : Int) - 1)) = ji10 := (i64_w _).trans hji10
                by_cases c11 : 0 ≤ (ji10)
                · rw [if_pos c11] at H
                  have c11b0 := eq_true c11
                  have c11b1 : decide (0 ≤ (ji10)) = true := decide_eq_true c11
                  clear c11
                  by_cases c12 : (ji10) ≤ (x5_2.length : Int)
                  · rw [if_pos c12] at H
                    have c12b0 := eq_true c12
                    have c12b1 : decide ((ji10) ≤ (x5_2.length : Int)) = true := decide_eq_true c12
                    clear c12
                    obtain ⟨y106, hy106⟩ : ∃ y_ : List Int, y_ = (x5_2.take ((ji10) : Int).toNat) := ⟨_, rfl⟩
                    replace H : (if (y106.length : Int) = 0 then (if x6_1 < (l0.length : Int) then (some (x6_1, 5, 0)) else (some (0, 0, x7_1))) else (sobriquetref01_Well.l1 kj1 l0 y106 x6_1 x7_1)) = some (r1, r2, r3) := by first | (rw [hy106]; with_reducible exact H) | (have H2_ := (Option.bind_some _ _).symm.trans H; rw [hy106]; with_reducible exact H2_) | (have H2_ := (Option.bind_some _ _).symm.trans H; with_reducible exact H2_) | with_reducible exact H | (rw [hy106]; exact H) | exact H
                    have Ny106 := Aside0.mk hy106
                    clear hy106
                    by_cases c13 : (y106.length : Int) = 0
                    · rw [if_pos c13] at H
                      have c13b0 : ((y106.length : Int) == 0) = true := beq_iff_eq.mpr c13
                      have c13b1 : ((y106.length : Int) != 0) = false := bne_eq_false_iff_eq.mpr c13
                      clear c13
                      by_cases c14 : x6_1 < (l0.length : Int)
                      · rw [if_pos c14] at H
                        have c14b0 : decide (x6_1 < (l0.length : Int)) = true := decide_eq_true c14
                        clear c14
                        simp only [Option.some.injEq, Prod.mk.injEq] at H
                        obtain ⟨rfl, rfl, rfl⟩ := H
                        obtain ⟨Ao15, co15, eo15⟩ := Kd.R_slice HO_5.out
                        subst eo15
                        have q16 : ((ji10) : Int) ≤ ((x5_2.length : Int) : Int) := of_decide_eq_true (by first | (with_reducible assumption) | assumption)
                        obtain ⟨i016, hi016, _, hsz16, _⟩ := info_parts info3
                        have hcut16 := cut_to (P := Try.prog) 53 3 .i64 Try.underlying53 hi016 Ao15 x5_2.length co15 (ji10) (of_decide_eq_true (by first | (with_reducible assumption) | assumption)) q16 (Kd.R_reads' HO_5.out).2.1
                        have hr16 := Kd.R_take (m := ((ji10) : Int).toNat) HO_5.out (by omega)
                        have hy16 : y106.length = ((ji10) : Int).toNat := (by rw [Ny106.out, List.length_take]; omega)
                        rw [← Ny106.out] at hr16
                        rw [← hy16] at hr16 hcut16
                        clear hy16 hi016 hsz16 HO_5
                        have HO108 := Aside0.mk hr16
                        clear hr16
                        replace q16 := eq_true q16
                        go_wp2
                        go_ret3
                        exact ⟨by first | rfl | (simp [errW_none, errW_some] <;> rfl) | (simp only [← hji10]; first | rfl | (simp [errW_none, errW_some] <;> rfl)) | (simp [*, errW_none, errW_some] <;> rfl), by repeat (first | (with_reducible first | exact HB.out | apply below_alloc | apply pw_below_drewN | apply below_drew1) | exact HB.out)⟩
                      · rw [if_neg c14] at H
                        have c14b0 : decide (x6_1 < (l0.length : Int)) = false := decide_eq_false c14
                        clear c14
                        simp only [Option.some.injEq, Prod.mk.injEq] at H
                        obtain ⟨rfl, rfl, rfl⟩ := H
                        obtain ⟨Ao17, co17, eo17⟩ := Kd.R_slice HO_5.out
                        subst eo17
                        have q18 : ((ji10) : Int) ≤ ((x5_2.length : Int) : Int) := of_decide_eq_true (by first | (with_reducible assumption) | assumption)
                        obtain ⟨i018, hi018, _, hsz18, _⟩ := info_parts info3
                        have hcut18 := cut_to (P := Try.prog) 53 3 .i64 Try.underlying53 hi018 Ao17 x5_2.length co17 (ji10) (of_decide_eq_true (by first | (with_reducible assumption) | assumption)) q18 (Kd.R_reads' HO_5.out).2.1
                        have hr18 := Kd.R_take (m := ((ji10) : Int).toNat) HO_5.out (by omega)
                        have hy18 : y106.length = ((ji10) : Int).toNat := (by rw [Ny106.out, List.length_take]; omega)
                        rw [← Ny106.out] at hr18
                        rw [← hy18] at hr18 hcut18
                        clear hy18 hi018 hsz18 HO_5
                        have HO108 := Aside0.mk hr18
                        clear hr18
                        replace q18 := eq_true q18
                        go_wp2
                        go_ret3
                        exact ⟨by first | rfl | (simp [errW_none, errW_some] <;> rfl) | (simp only [← hji10]; first | rfl | (simp [errW_none, errW_some] <;> rfl)) | (simp [*, errW_none, errW_some] <;> rfl), by repeat (first | (with_reducible first | exact HB.out | apply below_alloc | apply pw_below_drewN | apply below_drew1) | exact HB.out)⟩
                    · rw [if_neg c13] at H
                      have c13b0 : ((y106.length : Int) == 0) = false := beq_eq_false_iff_ne.mpr c13
                      have c13b1 : ((y106.length : Int) != 0) = true := bne_iff_ne.mpr c13
                      have c13b2 : ¬ (y106 = []) := fun h_ => c13 (by rw [h_]; rfl)
                      have H' := Aside0.mk H
                      clear H
                      obtain ⟨Ao19, co19, eo19⟩ := Kd.R_slice HO_5.out
                      subst eo19
                      have q20 : ((ji10) : Int) ≤ ((x5_2.length : Int) : Int) := of_decide_eq_true (by first | (with_reducible assumption) | assumption)
                      obtain ⟨i020, hi020, _, hsz20, _⟩ := info_parts info3
                      have hcut20 := cut_to (P := Try.prog) 53 3 .i64 Try.underlying53 hi020 Ao19 x5_2.length co19 (ji10) (of_decide_eq_true (by first | (with_reducible assumption) | assumption)) q20 (Kd.R_reads' HO_5.out).2.1
                      have hr20 := Kd.R_take (m := ((ji10) : Int).toNat) HO_5.out (by omega)
                      have hy20 : y106.length = ((ji10) : Int).toNat := (by rw [Ny106.out, List.length_take]; omega)
                      rw [← Ny106.out] at hr20
                      rw [← hy20] at hr20 hcut20
                      clear hy20 hi020 hsz20 HO_5
                      have HO108 := Aside0.mk hr20
                      clear hr20
                      replace q20 := eq_true q20
                      go_wp2
                      go_roundg kj1
                      case measure => have := HK1.out; have := HK2.out; have := HJ1.out; omega
                      case rel => exact ⟨(y106), H', ⟨by have := HK1.out; have := HK2.out; have := HJ1.out; omega⟩, ⟨by (with_reducible repeat (first | apply Kd.R_alloc | apply Kd.R_drewN | apply Kd.R_drew)); exact HO108.out⟩, ⟨by repeat (first | (with_reducible first | exact HB.out | apply below_alloc | apply pw_below_drewN | apply below_drew1) | exact HB.out)⟩⟩
                  · rw [if_neg c12] at H
                    exact absurd H (by simp)
                · rw [if_neg c11] at H
                  exact absurd H (by simp)
              · replace c9 := Bool.eq_false_iff.mpr c9
                subst c9
                have H1 : (if (x5_2.length : Int) > 0 then (if 0 ≤ (wrap64 ((x5_2.length : Int) - 1)) then (if (wrap64 ((x5_2.length : Int) - 1)) < (x5_2.length : Int) then (sobriquetref01_Well.j3 kj1 l0 x5_2 x6_1 x7_1 (rd x5_2 (wrap64 ((x5_2.length : Int) - 1)))) else (none)) else (none)) else (sobriquetref01_Well.j3 kj1 l0 x5_2 x6_1 x7_1 (l0.length : Int))) = some (r1, r2, r3) := by rw [if_neg (show ¬ (false = true) by decide)] at H; exact H
                clear H
                have H := H1
                clear H1
                have HC21 := Aside0.mk H
                clear H
                obtain ⟨Ao22, co22, eo22⟩ := Kd.R_slice HO_5.out
                subst eo22
                go_upto_if 42 with (fail)
                go_cut [8] (fun v8 wc => ∃ (kq : Nat) (x8_20 : Int), v8 = .int .i64 x8_20 ∧ Aside0 (sobriquetref01_Well.j3 kq l0 x5_2 x6_1 x7_1 x8_20 = some (r1, r2, r3)) ∧ Aside0 (kq ≤ kj1) ∧ Aside0 (Kd.R (Kd.int .i64) 3 wc w.heap.size (fun _ => True) (.slice Ao22 x5_2.length co22) x5_2) ∧ Aside0 (Below w.heap.size w wc))
                case first =>
                  have H := HC21.out
                  clear HC21
                  by_cases c23 : (x5_2.length : Int) > 0
                  · rw [if_pos c23] at H
                    have c23b0 : decide (0 < (x5_2.length : Int)) = true := decide_eq_true c23
                    have c23b1 : decide (0 < x5_2.length) = true := decide_eq_true (by omega)
                    clear c23
                    (first | rw [c23b0] | (simp only [i64_w, i32_w]; rw [c23b0]) | skip)
                    obtain ⟨ji24, hji24⟩ : ∃ j_ : Int, (wrap64 ((x5_2.length : Int) - 1)) = j_ := ⟨_, rfl⟩
                    replace H : (if 0 ≤ (ji24) then (if (ji24) < (x5_2.length : Int) then (sobriquetref01_Well.j3 kj1 l0 x5_2 x6_1 x7_1 (rd x5_2 (ji24))) else (none)) else (none)) = some (r1, r2, r3) := by first | (rw [hji24] at H; exact H) | (simp only [hji24] at H ⊢; exact H)
                    have hji24w : (IntKind.i64.wrap ((x5_2.length : Int) - 1)) = ji24 := (i64_w _).trans hji24
                    by_cases c25 : 0 ≤ (ji24)
                    · rw [if_pos c25] at H
                      have c25b0 : decide (0 ≤ (ji24)) = true := decide_eq_true c25
                      clear c25
                      by_cases c26 : (ji24) < (x5_2.length : Int)
                      · rw [if_pos c26] at H
                        have c26b0 : decide ((ji24) < (x5_2.length : Int)) = true := decide_eq_true c26
                        clear c26
                        have H' := Aside0.mk H
                        clear H
                        have p109 : 0 ≤ ((ji24) : Int) := of_decide_eq_true (by first | (with_reducible assumption) | assumption)
                        have q109 : (ji24) < (x5_2.length : Int) := of_decide_eq_true (by first | (with_reducible assumption) | assumption)
                        obtain ⟨ad109, e109, hx109_0⟩ := Kd.at_int (Kd.R_reads' HO_5.out).2.2 (ji24) p109 q109
                        cases e109
                        replace p109 := eq_true p109
                        replace q109 := eq_true q109
                        go_wp2 <;> first | (exfalso; have q_ := of_decide_eq_true c23b1; omega) | skip
                        go_meet
                        case rel => exact ⟨_, (rd x5_2 (ji24)), (by first | rfl | (simp; done) | (simp only [← hji24] <;> (first | rfl | simp)) | (simp [*]; done)), H', ⟨by have := HK1.out; have := HK2.out; have := HJ1.out; first | omega | exact Nat.le_refl _⟩, ⟨by (with_reducible repeat (first | apply Kd.R_alloc | apply Kd.R_drewN | apply Kd.R_drew)); exact HO_5.out⟩, ⟨by repeat (first | (with_reducible first | exact HB.out | apply below_alloc | apply pw_below_drewN | apply below_drew1) | exact HB.out)⟩⟩
                      · rw [if_neg c26] at H
                        exact absurd H (by simp)
                    · rw [if_neg c25] at H
                      exact absurd H (by simp)
                  · rw [if_neg c23] at H
                    have c23b0 : decide (0 < (x5_2.length : Int)) = false := decide_eq_false c23
                    have c23b1 : decide (0 < x5_2.length) = false := decide_eq_false (by omega)
                    clear c23
                    (first | rw [c23b0] | (simp only [i64_w, i32_w]; rw [c23b0]) | skip)
                    have H' := Aside0.mk H
                    clear H
                    go_wp2 <;> first | (exfalso; have q_ := of_decide_eq_false c23b1; omega) | skip
                    go_meet
                    case rel => exact ⟨_, ((l0.length : Int)), (by first | rfl | (simp; done) | (simp [*]; done)), H', ⟨by have := HK1.out; have := HK2.out; have := HJ1.out; first | omega | exact Nat.le_refl _⟩, ⟨by (with_reducible repeat (first | apply Kd.R_alloc | apply Kd.R_drewN | apply Kd.R_drew)); exact HO_5.out⟩, ⟨by repeat (first | (with_reducible first | exact HB.out | apply below_alloc | apply pw_below_drewN | apply below_drew1) | exact HB.out)⟩⟩
                case rest =>
                  clear HC21
                  try clear c1
                  try clear p1
                  try clear q1
                  try clear hx1
                  try clear c2
                  try clear p2
                  try clear q2
                  try clear c3
                  try clear c3b0
                  try clear c3b1
                  try clear c5
                  try clear c5b0
                  try clear c6
                  try clear c6b0
                  try clear p6
                  try clear c9
                  try clear p10
                  try clear q10
                  try clear hx10
                  try clear c11
                  try clear c11b0
                  try clear c11b1
                  try clear c12
                  try clear c12b0
                  try clear c12b1
                  try clear c13
                  try clear c13b0
                  try clear c13b1
                  try clear c13b2
                  try clear c14
                  try clear c14b0
                  try clear q16
                  try clear q18
                  try clear q20
                  try clear c23
                  try clear c23b0
                  try clear c23b1
                  try clear c25
                  try clear c25b0
                  try clear c26
                  try clear c26b0
                  try clear hx105_0
                  try clear hx109_0
                  try clear p1
                  try clear p105
                  try clear p109
                  try clear p2
                  try clear p6
                  try clear q1
                  try clear q105
                  try clear q109
                  try clear q16
                  try clear q18
                  try clear q20
                  obtain ⟨kq, x8_20, rfl, HA, HJ20, HO_5, HB⟩ := hcut
                  cases kq with
                  | zero => exact absurd HA.out (by simp [sobriquetref01_Well.j3])
                  | succ kj20 =>
                    have H := HA.out
                    clear HA
                    simp only [sobriquetref01_Well.j3] at H
                    by_cases c27 : (x5_2.length : Int) ≥ 32
                    · rw [if_pos c27] at H
                      have c27b0 : decide (32 ≤ (x5_2.length : Int)) = true := decide_eq_true c27
                      have c27b1 : decide (32 ≤ x5_2.length) = true := decide_eq_true (by omega)
                      clear c27
                      simp only [Option.some.injEq, Prod.mk.injEq] at H
                      obtain ⟨rfl, rfl, rfl⟩ := H
                      go_wp2
                      go_ret3
                      exact ⟨by first | rfl | (simp [errW_none, errW_some] <;> rfl) | (simp [*, errW_none, errW_some] <;> rfl), by repeat (first | (with_reducible first | exact HB.out | apply below_alloc | apply pw_below_drewN | apply below_drew1) | exact HB.out)⟩
                    · rw [if_neg c27] at H
                      have c27b0 : decide (32 ≤ (x5_2.length : Int)) = false := decide_eq_false c27
                      have c27b1 : decide (32 ≤ x5_2.length) = false := decide_eq_false (by omega)
                      clear c27
                      by_cases c28 : 0 ≤ x6_1
                      · rw [if_pos c28] at H
                        have c28b0 := eq_true c28
                        have c28b1 : decide (0 ≤ x6_1) = true := decide_eq_true c28
                        clear c28
                        by_cases c29 : x6_1 ≤ x8_20
                        · rw [if_pos c29] at H
                          have c29b0 := eq_true c29
                          have c29b1 : decide (x6_1 ≤ x8_20) = true := decide_eq_true c29
                          clear c29
                          by_cases c30 : x8_20 ≤ (l0.length : Int)
                          · rw [if_pos c30] at H
                            have c30b0 := eq_true c30
                            have c30b1 : decide (x8_20 ≤ (l0.length : Int)) = true := decide_eq_true c30
                            clear c30
                            replace H := Option.bind_eq_some_iff.mp H
                            obtain ⟨⟨t111, t112, t113, t114, t115, t116⟩, A310, H⟩ := H
                            replace H : (if t116 = 0 then (if t111 = 0 then (sobriquetref01_Well.j4 kj20 l0 x5_2 x6_1 x7_1 x8_20 (t112 == 0) t111 t112 t113 t114 t115) else (sobriquetref01_Well.j4 kj20 l0 x5_2 x6_1 x7_1 x8_20 false t111 t112 t113 t114 t115)) else (some (x6_1, t116, 0))) = some (r1, r2, r3) := H
                            have A31 := Aside0.mk A310
                            clear A310
                            by_cases c32 : t116 = 0
                            · rw [if_pos c32] at H
                              have c32b0 : (t116 == 0) = true := beq_iff_eq.mpr c32
                              have c32b1 : (t116 != 0) = false := bne_eq_false_iff_eq.mpr c32
                              clear c32
                              have HC33 := Aside0.mk H
                              clear H
                              obtain ⟨i034, hi034, _, hsz34, _⟩ := info_parts info5
                              obtain ⟨A34, hcut34, hA34, hC34⟩ := print_mid_of (P := Try.prog) (Value.int .u8) 0 22 5 .i64 .i64 Try.underlying22 hi034 hsz34 A0 c0 l0 x6_1 x8_20 (of_decide_eq_true (by first | (with_reducible assumption) | assumption)) (by first | omega | exact of_decide_eq_true (by first | (with_reducible assumption) | assumption)) (of_decide_eq_true (by first | (with_reducible assumption) | assumption)) HC0.out
                              have HR110 := Aside0.mk (Kd.C_of_reads (h1 := fun _ => rfl) (hA34 _ (Kd.reads_of_C HR0.out)))
                              have HC110 := Aside0.mk hC34
                              clear hA34 hC34 hi034 hsz34
                              obtain ⟨yc34, hyc34⟩ : ∃ y_ : List Int, y_ = ((l0.take (x8_20 : Int).toNat).drop (x6_1 : Int).toNat) := ⟨_, rfl⟩
                              (try simp only [Int.reduceToNat] at hcut34 HR110 HC110)
                              rw [← hyc34] at hcut34 HR110 HC110
                              (try rw [← hyc34] at H')
                              rw [← hyc34] at A31
                              have Nyc34 := Aside0.mk hyc34
                              clear hyc34
                              go_upto_region 17 with (first | ((with_reducible refine gate_callee (f := 17) rfl ?_); refine goesL_ (some 58) rfl rfl Try.func17 (by kernel_rfl) rfl #[.slice A34 yc34.length (c0 - x6_1.toNat)] rfl (by (try simp only [List.map_toArray, List.map_cons, List.map_nil]); first | done | (rw [show yc34.length = (x8_20.toNat - x6_1.toNat) from (by rw [List.length_drop, List.length_take]; have h_ : (x8_20 : Int) ≤ (l0.length : Int) := of_decide_eq_true (by first | (with_reducible assumption) | assumption); omega)] <;> rfl) | rfl | (simp only [List.length_drop, List.length_take]; rfl)) ?_; (with_reducible refine (sobriquetref01_Read.calls kj20 _ _ yc34 t111 t112 t113 t114 t115 t116 _ ?side1 ?side2 A31.out).mono ?_); (case side1 => repeat (first | exact (Kd.C_below HR110.out HB.out) | (with_reducible refine Kd.C_alloc ?_ _) | (with_reducible refine Kd.C_drewN ?_ _) | (with_reducible refine Kd.C_drew ?_))); (case side2 => exact HC110.out); rintro e w35 ⟨rfl, hb⟩; refine ⟨_, rfl, ?_⟩; have n0_ := Aside0.mk (Kd.R_below (by (with_reducible repeat (first | apply Kd.R_alloc | apply Kd.R_drewN | apply Kd.R_drew)); exact HO_5.out) hb); have n1_ := Aside0.mk (below_step (by repeat (first | (with_reducible first | exact HB.out | apply below_alloc | apply pw_below_drewN | apply below_drew1) | exact HB.out)) hb); clear HO_5; clear HB; have HO_5 := n0_; have HB := n1_; clear n0_ n1_; (try clear hb); (try clear hb2); (try clear hk); (try clear hi)) | ((with_reducible refine gate_dst (N := 9) rfl ?_); (try (refine gate_guard (by rfl) ?_; dsimp only)); refine box_event ?hg (N := 9) ?hd (cs := #[.int .i64 0, .int .i64 0, .bool false, .int .i64 0, .int .i64 0]) (t := 35) ?hr ?_; (case hd => rfl); (case hg => rfl); (case hr => first | (go_simp; done) | (go_simp; rfl)); intro gb117 hg w36 hbox hb; have n0_ := Aside0.mk (Kd.R_below (by (with_reducible repeat (first | apply Kd.R_alloc | apply Kd.R_drewN | apply Kd.R_drew)); exact HO_5.out) hb); have n1_ := Aside0.mk (below_step (by repeat (first | (with_reducible first | exact HB.out | apply below_alloc | apply pw_below_drewN | apply below_drew1) | exact HB.out)) hb); have n2_ := Aside0.mk (hbox); have n3_ := Aside0.mk ((by rw [hg]; exact (below_size (by repeat (first | (with_reducible first | exact HB.out | apply below_alloc | apply pw_below_drewN | apply below_drew1) | exact HB.out))) : w.heap.size ≤ gb117)); have n4_ := Aside0.mk ((by rw [hg]; exact (below_size (by repeat (first | (with_reducible first | exact HB.out | apply below_alloc | apply pw_below_drewN | apply below_drew1) | exact HB.out))) : w.heap.size ≤ gb117)); clear HO_5; clear HB; have HO_5 := n0_; have HB := n1_; have BK117 := n2_; have GW117 := n3_; have GE117 := n4_; clear n0_ n1_ n2_ n3_ n4_; clear hb hbox hg; have hcz37_0 : w36.cell? ⟨gb117, 0, none⟩ = some (.int .i64 0) := (blk_cell BK117.out 0).trans rfl; have hcz37_1 : w36.cell? ⟨gb117, 1, none⟩ = some (.int .i64 0) := (blk_cell BK117.out 1).trans rfl; have hcz37_2 : w36.cell? ⟨gb117, 2, none⟩ = some (.bool false) := (blk_cell BK117.out 2).trans rfl; have hcz37_3 : w36.cell? ⟨gb117, 3, none⟩ = some (.int .i64 0) := (blk_cell BK117.out 3).trans rfl; have hcz37_4 : w36.cell? ⟨gb117, 4, none⟩ = some (.int .i64 0) := (blk_cell BK117.out 4).trans rfl; have hfz37_0 := blk_frozen BK117.out 0; have hfz37_1 := blk_frozen BK117.out 1; have hfz37_2 := blk_frozen BK117.out 2; have hfz37_3 := blk_frozen BK117.out 3; have hfz37_4 := blk_frozen BK117.out 4))
                              (try simp only [Act.put, List.setIfInBounds_toArray, List.set_cons_zero, List.set_cons_succ])
                              go_cut [72] (fun v72 wc => ∃ (kq : Nat) (x72_32 : Bool), v72 = .bool x72_32 ∧ Aside0 (sobriquetref01_Well.j4 kq l0 x5_2 x6_1 x7_1 x8_20 x72_32 t111 t112 t113 t114 t115 = some (r1, r2, r3)) ∧ Aside0 (kq ≤ kj20) ∧ Aside0 (Kd.R (Kd.int .i64) 3 wc w.heap.size (fun _ => True) (.slice Ao22 x5_2.length co22) x5_2) ∧ Aside0 (wc.heap[gb117]? = some (.cells #[.int .i64 t111, .int .i64 t112, .bool t113, .int .i64 t114, .int .i64 t115] 35 (0, 0))) ∧ Aside0 (Below w.heap.size w wc))
                              case first =>
                                have H := HC33.out
                                clear HC33
                                by_cases c38 : t111 = 0
                                · rw [if_pos c38] at H
                                  have c38b0 : (t111 == 0) = true := beq_iff_eq.mpr c38
                                  have c38b1 : (t111 != 0) = false := bne_eq_false_iff_eq.mpr c38
                                  clear c38
                                  (first | rw [c38b0] | (simp only [i64_w, i32_w]; rw [c38b0]) | skip)
                                  have H' := Aside0.mk H
                                  clear H
                                  have hcz39_0 : w36.cell? ⟨gb117, 0, none⟩ = some (.int .i64 0) := (blk_cell BK117.out 0).trans rfl
                                  have hcz39_1 : w36.cell? ⟨gb117, 1, none⟩ = some (.int .i64 0) := (blk_cell BK117.out 1).trans rfl
                                  have hcz39_2 : w36.cell? ⟨gb117, 2, none⟩ = some (.bool false) := (blk_cell BK117.out 2).trans rfl
                                  have hcz39_3 : w36.cell? ⟨gb117, 3, none⟩ = some (.int .i64 0) := (blk_cell BK117.out 3).trans rfl
                                  have hcz39_4 : w36.cell? ⟨gb117, 4, none⟩ = some (.int .i64 0) := (blk_cell BK117.out 4).trans rfl
                                  have hfz39_0 := blk_frozen BK117.out 0
                                  have hfz39_1 := blk_frozen BK117.out 1
                                  have hfz39_2 := blk_frozen BK117.out 2
                                  have hfz39_3 := blk_frozen BK117.out 3
                                  have hfz39_4 := blk_frozen BK117.out 4
                                  go_wp2
                                  go_meet
                                  case rel => exact ⟨_, ((t112 == 0)), (by first | rfl | (simp; done) | (simp [*]; done)), H', ⟨by have := HK1.out; have := HK2.out; have := HJ1.out; have := HJ20.out; first | omega | exact Nat.le_refl _⟩, ⟨by (with_reducible repeat (first | apply Kd.R_alloc | apply Kd.R_drewN | apply Kd.R_drew)); exact Kd.R_mono (Kd.R_far (p := ⟨gb117, 4, none⟩) (Kd.R_far (p := ⟨gb117, 3, none⟩) (Kd.R_far (p := ⟨gb117, 2, none⟩) (Kd.R_far (p := ⟨gb117, 1, none⟩) (Kd.R_far (p := ⟨gb117, 0, none⟩) (Kd.R_types HO_5.out BK117.out (by decide)) (fun _ hk => hk.2) (.int .i64 t111)) (fun _ hk => hk.2) (.int .i64 t112)) (fun _ hk => hk.2) (.bool t113)) (fun _ hk => hk.2) (.int .i64 t114)) (fun _ hk => hk.2) (.int .i64 t115)) (fun _ hk => trivial)⟩, ⟨by (with_reducible repeat (first | refine blk_drewN ?_ _ | refine blk_drew ?_ | refine blk_alloc ?_ _)); refine blk_put (cs := #[.int .i64 t111, .int .i64 t112, .bool t113, .int .i64 t114, .int .i64 0]) ?_ 4 _ rfl; (with_reducible repeat (first | refine blk_drewN ?_ _ | refine blk_drew ?_ | refine blk_alloc ?_ _)); refine blk_put (cs := #[.int .i64 t111, .int .i64 t112, .bool t113, .int .i64 0, .int .i64 0]) ?_ 3 _ rfl; (with_reducible repeat (first | refine blk_drewN ?_ _ | refine blk_drew ?_ | refine blk_alloc ?_ _)); refine blk_put (cs := #[.int .i64 t111, .int .i64 t112, .bool false, .int .i64 0, .int .i64 0]) ?_ 2 _ rfl; (with_reducible repeat (first | refine blk_drewN ?_ _ | refine blk_drew ?_ | refine blk_alloc ?_ _)); refine blk_put (cs := #[.int .i64 t111, .int .i64 0, .bool false, .int .i64 0, .int .i64 0]) ?_ 1 _ rfl; (with_reducible repeat (first | refine blk_drewN ?_ _ | refine blk_drew ?_ | refine blk_alloc ?_ _)); refine blk_put (cs := #[.int .i64 0, .int .i64 0, .bool false, .int .i64 0, .int .i64 0]) ?_ 0 _ rfl; (with_reducible repeat (first | refine blk_drewN ?_ _ | refine blk_drew ?_ | refine blk_alloc ?_ _)); exact BK117.out⟩, ⟨by repeat (first | (with_reducible first | exact HB.out | apply below_alloc | apply pw_below_drewN | apply below_drew1 | refine below_set ?_ GE117.out) | exact HB.out)⟩⟩
                                · rw [if_neg c38] at H
                                  have c38b0 : (t111 == 0) = false := beq_eq_false_iff_ne.mpr c38
                                  have c38b1 : (t111 != 0) = true := bne_iff_ne.mpr c38
                                  (first | rw [c38b0] | (simp only [i64_w, i32_w]; rw [c38b0]) | skip)
                                  have H' := Aside0.mk H
                                  clear H
                                  have hcz40_0 : w36.cell? ⟨gb117, 0, none⟩ = some (.int .i64 0) := (blk_cell BK117.out 0).trans rfl
                                  have hcz40_1 : w36.cell? ⟨gb117, 1, none⟩ = some (.int .i64 0) := (blk_cell BK117.out 1).trans rfl
                                  have hcz40_2 : w36.cell? ⟨gb117, 2, none⟩ = some (.bool false) := (blk_cell BK117.out 2).trans rfl
                                  have hcz40_3 : w36.cell? ⟨gb117, 3, none⟩ = some (.int .i64 0) := (blk_cell BK117.out 3).trans rfl
                                  have hcz40_4 : w36.cell? ⟨gb117, 4, none⟩ = some (.int .i64 0) := (blk_cell BK117.out 4).trans rfl
                                  have hfz40_0 := blk_frozen BK117.out 0
                                  have hfz40_1 := blk_frozen BK117.out 1
                                  have hfz40_2 := blk_frozen BK117.out 2
                                  have hfz40_3 := blk_frozen BK117.out 3
                                  have hfz40_4 := blk_frozen BK117.out 4
                                  go_wp2
                                  go_meet
                                  case rel => exact ⟨_, (false), (by first | rfl | (simp; done) | (simp [*]; done)), H', ⟨by have := HK1.out; have := HK2.out; have := HJ1.out; have := HJ20.out; first | omega | exact Nat.le_refl _⟩, ⟨by (with_reducible repeat (first | apply Kd.R_alloc | apply Kd.R_drewN | apply Kd.R_drew)); exact Kd.R_mono (Kd.R_far (p := ⟨gb117, 4, none⟩) (Kd.R_far (p := ⟨gb117, 3, none⟩) (Kd.R_far (p := ⟨gb117, 2, none⟩) (Kd.R_far (p := ⟨gb117, 1, none⟩) (Kd.R_far (p := ⟨gb117, 0, none⟩) (Kd.R_types HO_5.out BK117.out (by decide)) (fun _ hk => hk.2) (.int .i64 t111)) (fun _ hk => hk.2) (.int .i64 t112)) (fun _ hk => hk.2) (.bool t113)) (fun _ hk => hk.2) (.int .i64 t114)) (fun _ hk => hk.2) (.int .i64 t115)) (fun _ hk => trivial)⟩, ⟨by (with_reducible repeat (first | refine blk_drewN ?_ _ | refine blk_drew ?_ | refine blk_alloc ?_ _)); refine blk_put (cs := #[.int .i64 t111, .int .i64 t112, .bool t113, .int .i64 t114, .int .i64 0]) ?_ 4 _ rfl; (with_reducible repeat (first | refine blk_drewN ?_ _ | refine blk_drew ?_ | refine blk_alloc ?_ _)); refine blk_put (cs := #[.int .i64 t111, .int .i64 t112, .bool t113, .int .i64 0, .int .i64 0]) ?_ 3 _ rfl; (with_reducible repeat (first | refine blk_drewN ?_ _ | refine blk_drew ?_ | refine blk_alloc ?_ _)); refine blk_put (cs := #[.int .i64 t111, .int .i64 t112, .bool false, .int .i64 0, .int .i64 0]) ?_ 2 _ rfl; (with_reducible repeat (first | refine blk_drewN ?_ _ | refine blk_drew ?_ | refine blk_alloc ?_ _)); refine blk_put (cs := #[.int .i64 t111, .int .i64 0, .bool false, .int .i64 0, .int .i64 0]) ?_ 1 _ rfl; (with_reducible repeat (first | refine blk_drewN ?_ _ | refine blk_drew ?_ | refine blk_alloc ?_ _)); refine blk_put (cs := #[.int .i64 0, .int .i64 0, .bool false, .int .i64 0, .int .i64 0]) ?_ 0 _ rfl; (with_reducible repeat (first | refine blk_drewN ?_ _ | refine blk_drew ?_ | refine blk_alloc ?_ _)); exact BK117.out⟩, ⟨by repeat (first | (with_reducible first | exact HB.out | apply below_alloc | apply pw_below_drewN | apply below_drew1 | refine below_set ?_ GE117.out) | exact HB.out)⟩⟩
                              case rest =>
                                clear HC33
                                try clear c1
                                try clear p1
                                try clear q1
                                try clear hx1
                                try clear c2
                                try clear p2
                                try clear q2
                                try clear c3
                                try clear c3b0
                                try clear c3b1
                                try clear c5
                                try clear c5b0
                                try clear c6
                                try clear c6b0
                                try clear p6
                                try clear c9
                                try clear p10
                                try clear q10
                                try clear hx10
                                try clear c11
                                try clear c11b0
                                try clear c11b1
                                try clear c12
                                try clear c12b0
                                try clear c12b1
                                try clear c13
                                try clear c13b0
                                try clear c13b1
                                try clear c13b2
                                try clear c14
                                try clear c14b0
                                try clear q16
                                try clear c17
                                try clear q18
                                try clear q20
                                try clear c23
                                try clear c23b0
                                try clear c23b1
                                try clear c25
                                try clear c25b0
                                try clear c26
                                try clear c26b0
                                try clear c27
                                try clear c27b0
                                try clear c27b1
                                try clear c28
                                try clear c28b0
                                try clear c28b1
                                try clear c29
                                try clear c29b0
                                try clear c29b1
                                try clear c30
                                try clear c30b0
                                try clear c30b1
                                try clear c32
                                try clear c32b0
                                try clear c32b1
                                try clear c38
                                try clear c38b0
                                try clear c38b1
                                try clear hcz37_0
                                try clear hcz37_1
                                try clear hcz37_2
                                try clear hcz37_3
                                try clear hcz37_4
                                try clear hcz39_0
                                try clear hcz39_1
                                try clear hcz39_2
                                try clear hcz39_3
                                try clear hcz39_4
                                try clear hcz40_0
                                try clear hcz40_1
                                try clear hcz40_2
                                try clear hcz40_3
                                try clear hcz40_4
                                try clear hfz37_0
                                try clear hfz37_1
                                try clear hfz37_2
                                try clear hfz37_3
                                try clear hfz37_4
                                try clear hfz39_0
                                try clear hfz39_1
                                try clear hfz39_2
                                try clear hfz39_3
                                try clear hfz39_4
                                try clear hfz40_0
                                try clear hfz40_1
                                try clear hfz40_2
                                try clear hfz40_3
                                try clear hfz40_4
                                try clear hx105_0
                                try clear hx109_0
                                try clear p1
                                try clear p10
                                try clear p105
                                try clear p109
                                try clear p2
                                try clear p6
                                try clear q1
                                try clear q10
                                try clear q105
                                try clear q109
                                try clear q16
                                try clear q18
                                try clear q2
                                try clear q20
                                obtain ⟨kq, x72_32, rfl, HA, HJ32, HO_5, BK117, HB⟩ := hcut
                                cases kq with
                                | zero => exact absurd HA.out (by simp [sobriquetref01_Well.j4])
                                | succ kj32 =>
                                  have H := HA.out
                                  clear HA
                                  simp only [sobriquetref01_Well.j4] at H
                                  by_cases c41 : x72_32 = true
                                  · subst c41
                                    have H1 : (some (x6_1, 3, 0)) = some (r1, r2, r3) := by rw [if_pos rfl] at H; exact H
                                    clear H
                                    have H := H1
                                    clear H1
                                    simp only [Option.some.injEq, Prod.mk.injEq] at H
                                    obtain ⟨rfl, rfl, rfl⟩ := H
                                    go_wp2
                                    go_ret3
                                    exact ⟨by first | rfl | (simp [errW_none, errW_some] <;> rfl) | (simp [*, errW_none, errW_some] <;> rfl), by repeat (first | (with_reducible first | exact HB.out | apply below_alloc | apply pw_below_drewN | apply below_drew1 | refine below_set ?_ GE117.out) | exact HB.out)⟩
                                  · replace c41 := Bool.eq_false_iff.mpr c41
                                    subst c41
                                    have H1 : ((sobriquetref01_right.f t111 t112 t113 t114 t115).bind fun t118 => (if t118 = true then (if (wrap64 ((wrap64 (x8_20 - x6_1)) - t115)) < t114 then (some (x6_1, 2, 0)) else (if t113 = true then (if x5_2.length < 17592186044416 then (sobriquetref01_Well.l0 kj32 l0 (x5_2 ++ [wrap64 ((wrap64 (x6_1 + t115)) + t114)]) (wrap64 (x6_1 + t115)) (mx x7_1 (wrap64 ((x5_2.length : Int) + 1)))) else (none)) else (if (x5_2.length : Int) = 0 then (if (wrap64 ((wrap64 (x6_1 + t115)) + t114)) < (l0.length : Int) then (some (wrap64 ((wrap64 (x6_1 + t115)) + t114), 5, 0)) else (some (0, 0, mx x7_1 (wrap64 ((x5_2.length : Int) + 1))))) else (sobriquetref01_Well.l0 kj32 l0 x5_2 (wrap64 ((wrap64 (x6_1 + t115)) + t114)) (mx x7_1 (wrap64 ((x5_2.length : Int) + 1))))))) else (some (x6_1, 7, 0)))) = some (r1, r2, r3) := by rw [if_neg (show ¬ (false = true) by decide)] at H; exact H
                                    clear H
                                    have H := H1
                                    clear H1
                                    replace H := Option.bind_eq_some_iff.mp H
                                    obtain ⟨t118, A420, H⟩ := H
                                    replace H : (if t118 = true then (if (wrap64 ((wrap64 (x8_20 - x6_1)) - t115)) < t114 then (some (x6_1, 2, 0)) else (if t113 = true then (if x5_2.length < 17592186044416 then (sobriquetref01_Well.l0 kj32 l0 (x5_2 ++ [wrap64 ((wrap64 (x6_1 + t115)) + t114)]) (wrap64 (x6_1 + t115)) (mx x7_1 (wrap64 ((x5_2.length : Int) + 1)))) else (none)) else (if (x5_2.length : Int) = 0 then (if (wrap64 ((wrap64 (x6_1 + t115)) + t114)) < (l0.length : Int) then (some (wrap64 ((wrap64 (x6_1 + t115)) + t114), 5, 0)) else (some (0, 0, mx x7_1 (wrap64 ((x5_2.length : Int) + 1))))) else (sobriquetref01_Well.l0 kj32 l0 x5_2 (wrap64 ((wrap64 (x6_1 + t115)) + t114)) (mx x7_1 (wrap64 ((x5_2.length : Int) + 1))))))) else (some (x6_1, 7, 0))) = some (r1, r2, r3) := H
                                    have A42 := Aside0.mk A420
                                    clear A420
                                    by_cases c43 : t118 = true
                                    · subst c43
                                      have H1 : (if (wrap64 ((wrap64 (x8_20 - x6_1)) - t115)) < t114 then (some (x6_1, 2, 0)) else (if t113 = true then (if x5_2.length < 17592186044416 then (sobriquetref01_Well.l0 kj32 l0 (x5_2 ++ [wrap64 ((wrap64 (x6_1 + t115)) + t114)]) (wrap64 (x6_1 + t115)) (mx x7_1 (wrap64 ((x5_2.length : Int) + 1)))) else (none)) else (if (x5_2.length : Int) = 0 then (if (wrap64 ((wrap64 (x6_1 + t115)) + t114)) < (l0.length : Int) then (some (wrap64 ((wrap64 (x6_1 + t115)) + t114), 5, 0)) else (some (0, 0, mx x7_1 (wrap64 ((x5_2.length : Int) + 1))))) else (sobriquetref01_Well.l0 kj32 l0 x5_2 (wrap64 ((wrap64 (x6_1 + t115)) + t114)) (mx x7_1 (wrap64 ((x5_2.length : Int) + 1))))))) = some (r1, r2, r3) := by rw [if_pos rfl] at H; exact H
                                      clear H
                                      have H := H1
                                      clear H1
                                      by_cases c44 : (wrap64 ((wrap64 (x8_20 - x6_1)) - t115)) < t114
                                      · rw [if_pos c44] at H
                                        have c44b0 : decide ((wrap64 ((wrap64 (x8_20 - x6_1)) - t115)) < t114) = true := decide_eq_true c44
                                        clear c44
                                        simp only [Option.some.injEq, Prod.mk.injEq] at H
                                        obtain ⟨rfl, rfl, rfl⟩ := H
                                        have hcz45_0 : wc.cell? ⟨gb117, 0, none⟩ = some (.int .i64 t111) := (blk_cell BK117.out 0).trans rfl
                                        have hcz45_1 : wc.cell? ⟨gb117, 1, none⟩ = some (.int .i64 t112) := (blk_cell BK117.out 1).trans rfl
                                        have hcz45_2 : wc.cell? ⟨gb117, 2, none⟩ = some (.bool t113) := (blk_cell BK117.out 2).trans rfl
                                        have hcz45_3 : wc.cell? ⟨gb117, 3, none⟩ = some (.int .i64 t114) := (blk_cell BK117.out 3).trans rfl
                                        have hcz45_4 : wc.cell? ⟨gb117, 4, none⟩ = some (.int .i64 t115) := (blk_cell BK117.out 4).trans rfl
                                        have hfz45_0 := blk_frozen BK117.out 0
                                        have hfz45_1 := blk_frozen BK117.out 1
                                        have hfz45_2 := blk_frozen BK117.out 2
                                        have hfz45_3 := blk_frozen BK117.out 3
                                        have hfz45_4 := blk_frozen BK117.out 4
                                        go_wp2_with (first | ((with_reducible refine gate_callee (f := 25) rfl ?_); refine goesL_ (some 75) rfl rfl Try.func25 (by kernel_rfl) rfl #[.agg #[.int .i64 t111, .int .i64 t112, .bool t113, .int .i64 t114, .int .i64 t115]] rfl (by (try simp only [List.map_toArray, List.map_cons, List.map_nil]); first | done | rfl | (simp only [List.length_drop, List.length_take]; rfl)) ?_; (with_reducible refine (sobriquetref01_right.calls t111 t112 t113 t114 t115 true _ A42.out).mono ?_); rintro e w46 ⟨rfl, hb⟩; refine ⟨_, rfl, ?_⟩; have n0_ := Aside0.mk (Kd.R_below (by (with_reducible repeat (first | apply Kd.R_alloc | apply Kd.R_drewN | apply Kd.R_drew)); exact HO_5.out) hb); have n1_ := Aside0.mk (blk_below (g := gb117) (o := .cells #[.int .i64 t111, .int .i64 t112, .bool t113, .int .i64 t114, .int .i64 t115] 35 (0, 0)) (by (with_reducible repeat (first | refine blk_drewN ?_ _ | refine blk_drew ?_ | refine blk_alloc ?_ _)); exact BK117.out) hb); have n2_ := Aside0.mk (below_step (by repeat (first | (with_reducible first | exact HB.out | apply below_alloc | apply pw_below_drewN | apply below_drew1 | refine below_set ?_ GE117.out) | exact HB.out)) hb); clear HO_5; clear BK117; clear HB; have HO_5 := n0_; have BK117 := n1_; have HB := n2_; clear n0_ n1_ n2_; (try clear hb); (try clear hb2); (try clear hk); (try clear hi); have hcz47_0 : w46.cell? ⟨gb117, 0, none⟩ = some (.int .i64 t111) := (blk_cell BK117.out 0).trans rfl; have hcz47_1 : w46.cell? ⟨gb117, 1, none⟩ = some (.int .i64 t112) := (blk_cell BK117.out 1).trans rfl; have hcz47_2 : w46.cell? ⟨gb117, 2, none⟩ = some (.bool t113) := (blk_cell BK117.out 2).trans rfl; have hcz47_3 : w46.cell? ⟨gb117, 3, none⟩ = some (.int .i64 t114) := (blk_cell BK117.out 3).trans rfl; have hcz47_4 : w46.cell? ⟨gb117, 4, none⟩ = some (.int .i64 t115) := (blk_cell BK117.out 4).trans rfl; have hfz47_0 := blk_frozen BK117.out 0; have hfz47_1 := blk_frozen BK117.out 1; have hfz47_2 := blk_frozen BK117.out 2; have hfz47_3 := blk_frozen BK117.out 3; have hfz47_4 := blk_frozen BK117.out 4))
                                        go_ret3
                                        exact ⟨by first | rfl | (simp [errW_none, errW_some] <;> rfl) | (simp [*, errW_none, errW_some] <;> rfl), by repeat (first | (with_reducible first | exact HB.out | apply below_alloc | apply pw_below_drewN | apply below_drew1 | refine below_set ?_ GE117.out) | exact HB.out)⟩
                                      · rw [if_neg c44] at H
                                        have c44b0 : decide ((wrap64 ((wrap64 (x8_20 - x6_1)) - t115)) < t114) = false := decide_eq_false c44
                                        clear c44
                                        obtain ⟨ji48, hji48⟩ : ∃ j_ : Int, (mx x7_1 (wrap64 ((x5_2.length : Int) + 1))) = j_ := ⟨_, rfl⟩
                                        replace H : (if t113 = true then (if x5_2.length < 17592186044416 then (sobriquetref01_Well.l0 kj32 l0 (x5_2 ++ [wrap64 ((wrap64 (x6_1 + t115)) + t114)]) (wrap64 (x6_1 + t115)) ji48) else (none)) else (if (x5_2.length : Int) = 0 then (if (wrap64 ((wrap64 (x6_1 + t115)) + t114)) < (l0.length : Int) then (some (wrap64 ((wrap64 (x6_1 + t115)) + t114), 5, 0)) else (some (0, 0, ji48))) else (sobriquetref01_Well.l0 kj32 l0 x5_2 (wrap64 ((wrap64 (x6_1 + t115)) + t114)) ji48))) = some (r1, r2, r3) := by first | (rw [hji48] at H; exact H) | (simp only [hji48] at H ⊢; exact H)
                                        (try rw [hji48] at A42)
                                        have hji48_ : (if x7_1 < (wrap64 ((x5_2.length : Int) + 1)) then (wrap64 ((x5_2.length : Int) + 1)) else x7_1) = ji48 := hji48
                                        by_cases c49 : t113 = true
                                        · subst c49
                                          have H1 : (if x5_2.length < 17592186044416 then (sobriquetref01_Well.l0 kj32 l0 (x5_2 ++ [wrap64 ((wrap64 (x6_1 + t115)) + t114)]) (wrap64 (x6_1 + t115)) ji48) else (none)) = some (r1, r2, r3) := by rw [if_pos rfl] at H; exact H
                                          clear H
                                          have H := H1
                                          clear H1
                                          by_cases c50 : x5_2.length < 17592186044416
                                          · rw [if_pos c50] at H
                                            have LMc50 := Aside0.mk c50
                                            clear c50
                                            obtain ⟨y119, hy119⟩ : ∃ y_ : List Int, y_ = (x5_2 ++ [wrap64 ((wrap64 (x6_1 + t115)) + t114)]) := ⟨_, rfl⟩
                                            replace H : (sobriquetref01_Well.l0 kj32 l0 y119 (wrap64 (x6_1 + t115)) ji48) = some (r1, r2, r3) := by first | (rw [hy119]; with_reducible exact H) | (have H2_ := (Option.bind_some _ _).symm.trans H; rw [hy119]; with_reducible exact H2_) | (have H2_ := (Option.bind_some _ _).symm.trans H; with_reducible exact H2_) | with_reducible exact H | (rw [hy119]; exact H) | exact H
                                            have Ny119 := Aside0.mk hy119
                                            clear hy119
                                            have H' := Aside0.mk H
                                            clear H
                                            have hcz51_0 : wc.cell? ⟨gb117, 0, none⟩ = some (.int .i64 t111) := (blk_cell BK117.out 0).trans rfl
                                            have hcz51_1 : wc.cell? ⟨gb117, 1, none⟩ = some (.int .i64 t112) := (blk_cell BK117.out 1).trans rfl
                                            have hcz51_2 : wc.cell? ⟨gb117, 2, none⟩ = some (.bool true) := (blk_cell BK117.out 2).trans rfl
                                            have hcz51_3 : wc.cell? ⟨gb117, 3, none⟩ = some (.int .i64 t114) := (blk_cell BK117.out 3).trans rfl
                                            have hcz51_4 : wc.cell? ⟨gb117, 4, none⟩ = some (.int .i64 t115) := (blk_cell BK117.out 4).trans rfl
                                            have hfz51_0 := blk_frozen BK117.out 0
                                            have hfz51_1 := blk_frozen BK117.out 1
                                            have hfz51_2 := blk_frozen BK117.out 2
                                            have hfz51_3 := blk_frozen BK117.out 3
                                            have hfz51_4 := blk_frozen BK117.out 4
                                            go_wp2_with (first | ((with_reducible refine gate_callee (f := 25) rfl ?_); refine goesL_ (some 75) rfl rfl Try.func25 (by kernel_rfl) rfl #[.agg #[.int .i64 t111, .int .i64 t112, .bool true, .int .i64 t114, .int .i64 t115]] rfl (by (try simp only [List.map_toArray, List.map_cons, List.map_nil]); first | done | rfl | (simp only [List.length_drop, List.length_take]; rfl)) ?_; (with_reducible refine (sobriquetref01_right.calls t111 t112 true t114 t115 true _ A42.out).mono ?_); rintro e w52 ⟨rfl, hb⟩; refine ⟨_, rfl, ?_⟩; have n0_ := Aside0.mk (Kd.R_below (by (with_reducible repeat (first | apply Kd.R_alloc | apply Kd.R_drewN | apply Kd.R_drew)); exact HO_5.out) hb); have n1_ := Aside0.mk (blk_below (g := gb117) (o := .cells #[.int .i64 t111, .int .i64 t112, .bool true, .int .i64 t114, .int .i64 t115] 35 (0, 0)) (by (with_reducible repeat (first | refine blk_drewN ?_ _ | refine blk_drew ?_ | refine blk_alloc ?_ _)); exact BK117.out) hb); have n2_ := Aside0.mk (below_step (by repeat (first | (with_reducible first | exact HB.out | apply below_alloc | apply pw_below_drewN | apply below_drew1 | refine below_set ?_ GE117.out) | exact HB.out)) hb); clear HO_5; clear BK117; clear HB; have HO_5 := n0_; have BK117 := n1_; have HB := n2_; clear n0_ n1_ n2_; (try clear hb); (try clear hb2); (try clear hk); (try clear hi); have hcz53_0 : w52.cell? ⟨gb117, 0, none⟩ = some (.int .i64 t111) := (blk_cell BK117.out 0).trans rfl; have hcz53_1 : w52.cell? ⟨gb117, 1, none⟩ = some (.int .i64 t112) := (blk_cell BK117.out 1).trans rfl; have hcz53_2 : w52.cell? ⟨gb117, 2, none⟩ = some (.bool true) := (blk_cell BK117.out 2).trans rfl; have hcz53_3 : w52.cell? ⟨gb117, 3, none⟩ = some (.int .i64 t114) := (blk_cell BK117.out 3).trans rfl; have hcz53_4 : w52.cell? ⟨gb117, 4, none⟩ = some (.int .i64 t115) := (blk_cell BK117.out 4).trans rfl; have hfz53_0 := blk_frozen BK117.out 0; have hfz53_1 := blk_frozen BK117.out 1; have hfz53_2 := blk_frozen BK117.out 2; have hfz53_3 := blk_frozen BK117.out 3; have hfz53_4 := blk_frozen BK117.out 4) | ((with_reducible refine gate_builtin (b := .append) (xs := #[.tmp 95, .tmp 103]) rfl ?_); (try (refine gate_guard (by rfl) ?_; dsimp only)); at_builtin; refine Kd.R_append (Kd.int .i64) (w0 := w) w.heap.size rfl (.tmp 95) (.tmp 103) 53 3 (.int .i64 0) 8 rfl Try.underlying53 info3 rfl (by decide) (by omega) (.slice Ao22 x5_2.length co22) x5_2 (wrap64 ((wrap64 (x6_1 + t115)) + t114)) [.int .i64 (wrap64 ((wrap64 (x6_1 + t115)) + t114))] (fun _ => True) (fun _ => False) rfl rfl ?aP (fun _ hk => hk.elim) ?aF ?aO ?aB ?aS ?aL ?_; (case aP => exact rfl); (case aB => exact (by repeat (first | (with_reducible first | exact HB.out | apply below_alloc | apply pw_below_drewN | apply below_drew1 | refine below_set ?_ GE117.out) | exact HB.out))); (case aF => exact (fun _ _ => trivial)); (case aO => exact (by (with_reducible repeat (first | apply Kd.R_alloc | apply Kd.R_drewN | apply Kd.R_drew)); exact HO_5.out)); (case aS => exact (below_size (by repeat (first | (with_reducible first | exact HB.out | apply below_alloc | apply pw_below_drewN | apply below_drew1 | refine below_set ?_ GE117.out) | exact HB.out)))); (case aL => have := LMc50.out; omega); intro v120 w54 ho hb hg hat; rw [← Ny119.out] at ho; have n0_ := Aside0.mk (blk_grown (g := gb117) (o := .cells #[.int .i64 t111, .int .i64 t112, .bool true, .int .i64 t114, .int .i64 t115] 35 (0, 0)) (by (with_reducible repeat (first | refine blk_drewN ?_ _ | refine blk_drew ?_ | refine blk_alloc ?_ _)); exact BK117.out) hg (Kd.R_ne HO_5.out BK117.out (by decide))); have n1_ := Aside0.mk (hb); have n2_ := Aside0.mk (ho); clear BK117; clear HB; clear HO_5; have BK117 := n0_; have HB := n1_; have HO121 := n2_; clear n0_ n1_ n2_; clear ho hb hg hat; have hcz55_0 : w54.cell? ⟨gb117, 0, none⟩ = some (.int .i64 t111) := (blk_cell BK117.out 0).trans rfl; have hcz55_1 : w54.cell? ⟨gb117, 1, none⟩ = some (.int .i64 t112) := (blk_cell BK117.out 1).trans rfl; have hcz55_2 : w54.cell? ⟨gb117, 2, none⟩ = some (.bool true) := (blk_cell BK117.out 2).trans rfl; have hcz55_3 : w54.cell? ⟨gb117, 3, none⟩ = some (.int .i64 t114) := (blk_cell BK117.out 3).trans rfl; have hcz55_4 : w54.cell? ⟨gb117, 4, none⟩ = some (.int .i64 t115) := (blk_cell BK117.out 4).trans rfl; have hfz55_0 := blk_frozen BK117.out 0; have hfz55_1 := blk_frozen BK117.out 1; have hfz55_2 := blk_frozen BK117.out 2; have hfz55_3 := blk_frozen BK117.out 3; have hfz55_4 := blk_frozen BK117.out 4))
                                            go_roundg kj32
                                            case measure => have := HK1.out; have := HK2.out; have := HJ1.out; have := HJ20.out; have := HJ32.out; omega
                                            case rel => exact ⟨(y119), (wrap64 (x6_1 + t115)), (ji48), (by first | rfl | (simp; done) | (simp [*]; done)), (by first | rfl | (simp; done) | (simp only [← hji48] <;> (first | rfl | simp)) | (simp [*]; done)), H', ⟨by have := HK1.out; have := HK2.out; have := HJ1.out; have := HJ20.out; have := HJ32.out; omega⟩, ⟨by (with_reducible repeat (first | apply Kd.R_alloc | apply Kd.R_drewN | apply Kd.R_drew)); exact HO121.out⟩, ⟨by repeat (first | (with_reducible first | exact HB.out | apply below_alloc | apply pw_below_drewN | apply below_drew1 | refine below_set ?_ GE117.out) | exact HB.out)⟩⟩
                                          · rw [if_neg c50] at H
                                            exact absurd H (by simp)
                                        · replace c49 := Bool.eq_false_iff.mpr c49
                                          subst c49
                                          have H1 : (if (x5_2.length : Int) = 0 then (if (wrap64 ((wrap64 (x6_1 + t115)) + t114)) < (l0.length : Int) then (some (wrap64 ((wrap64 (x6_1 + t115)) + t114), 5, 0)) else (some (0, 0, ji48))) else (sobriquetref01_Well.l0 kj32 l0 x5_2 (wrap64 ((wrap64 (x6_1 + t115)) + t114)) ji48)) = some (r1, r2, r3) := by rw [if_neg (show ¬ (false = true) by decide)] at H; exact H
                                          clear H
                                          have H := H1
                                          clear H1
                                          by_cases c56 : (x5_2.length : Int) = 0
                                          · rw [if_pos c56] at H
                                            have c56b0 : ((x5_2.length : Int) == 0) = true := beq_iff_eq.mpr c56
                                            have c56b1 : ((x5_2.length : Int) != 0) = false := bne_eq_false_iff_eq.mpr c56
                                            clear c56
                                            by_cases c57 : (wrap64 ((wrap64 (x6_1 + t115)) + t114)) < (l0.length : Int)
                                            · rw [if_pos c57] at H
                                              have c57b0 : decide ((wrap64 ((wrap64 (x6_1 + t115)) + t114)) < (l0.length : Int)) = true := decide_eq_true c57
                                              clear c57
                                              simp only [Option.some.injEq, Prod.mk.injEq] at H
                                              obtain ⟨rfl, rfl, rfl⟩ := H
                                              have hcz58_0 : wc.cell? ⟨gb117, 0, none⟩ = some (.int .i64 t111) := (blk_cell BK117.out 0).trans rfl
                                              have hcz58_1 : wc.cell? ⟨gb117, 1, none⟩ = some (.int .i64 t112) := (blk_cell BK117.out 1).trans rfl
                                              have hcz58_2 : wc.cell? ⟨gb117, 2, none⟩ = some (.bool false) := (blk_cell BK117.out 2).trans rfl
                                              have hcz58_3 : wc.cell? ⟨gb117, 3, none⟩ = some (.int .i64 t114) := (blk_cell BK117.out 3).trans rfl
                                              have hcz58_4 : wc.cell? ⟨gb117, 4, none⟩ = some (.int .i64 t115) := (blk_cell BK117.out 4).trans rfl
                                              have hfz58_0 := blk_frozen BK117.out 0
                                              have hfz58_1 := blk_frozen BK117.out 1
                                              have hfz58_2 := blk_frozen BK117.out 2
                                              have hfz58_3 := blk_frozen BK117.out 3
                                              have hfz58_4 := blk_frozen BK117.out 4
                                              go_wp2_with (first | ((with_reducible refine gate_callee (f := 25) rfl ?_); refine goesL_ (some 75) rfl rfl Try.func25 (by kernel_rfl) rfl #[.agg #[.int .i64 t111, .int .i64 t112, .bool false, .int .i64 t114, .int .i64 t115]] rfl (by (try simp only [List.map_toArray, List.map_cons, List.map_nil]); first | done | rfl | (simp only [List.length_drop, List.length_take]; rfl)) ?_; (with_reducible refine (sobriquetref01_right.calls t111 t112 false t114 t115 true _ A42.out).mono ?_); rintro e w59 ⟨rfl, hb⟩; refine ⟨_, rfl, ?_⟩; have n0_ := Aside0.mk (Kd.R_below (by (with_reducible repeat (first | apply Kd.R_alloc | apply Kd.R_drewN | apply Kd.R_drew)); exact HO_5.out) hb); have n1_ := Aside0.mk (blk_below (g := gb117) (o := .cells #[.int .i64 t111, .int .i64 t112, .bool false, .int .i64 t114, .int .i64 t115] 35 (0, 0)) (by (with_reducible repeat (first | refine blk_drewN ?_ _ | refine blk_drew ?_ | refine blk_alloc ?_ _)); exact BK117.out) hb); have n2_ := Aside0.mk (below_step (by repeat (first | (with_reducible first | exact HB.out | apply below_alloc | apply pw_below_drewN | apply below_drew1 | refine below_set ?_ GE117.out) | exact HB.out)) hb); clear HO_5; clear BK117; clear HB; have HO_5 := n0_; have BK117 := n1_; have HB := n2_; clear n0_ n1_ n2_; (try clear hb); (try clear hb2); (try clear hk); (try clear hi); have hcz60_0 : w59.cell? ⟨gb117, 0, none⟩ = some (.int .i64 t111) := (blk_cell BK117.out 0).trans rfl; have hcz60_1 : w59.cell? ⟨gb117, 1, none⟩ = some (.int .i64 t112) := (blk_cell BK117.out 1).trans rfl; have hcz60_2 : w59.cell? ⟨gb117, 2, none⟩ = some (.bool false) := (blk_cell BK117.out 2).trans rfl; have hcz60_3 : w59.cell? ⟨gb117, 3, none⟩ = some (.int .i64 t114) := (blk_cell BK117.out 3).trans rfl; have hcz60_4 : w59.cell? ⟨gb117, 4, none⟩ = some (.int .i64 t115) := (blk_cell BK117.out 4).trans rfl; have hfz60_0 := blk_frozen BK117.out 0; have hfz60_1 := blk_frozen BK117.out 1; have hfz60_2 := blk_frozen BK117.out 2; have hfz60_3 := blk_frozen BK117.out 3; have hfz60_4 := blk_frozen BK117.out 4))
                                              go_ret3
                                              exact ⟨by first | rfl | (simp [errW_none, errW_some] <;> rfl) | (simp only [← hji48]; first | rfl | (simp [errW_none, errW_some] <;> rfl)) | (simp [*, errW_none, errW_some] <;> rfl), by repeat (first | (with_reducible first | exact HB.out | apply below_alloc | apply pw_below_drewN | apply below_drew1 | refine below_set ?_ GE117.out) | exact HB.out)⟩
                                            · rw [if_neg c57] at H
                                              have c57b0 : decide ((wrap64 ((wrap64 (x6_1 + t115)) + t114)) < (l0.length : Int)) = false := decide_eq_false c57
                                              clear c57
                                              simp only [Option.some.injEq, Prod.mk.injEq] at H
                                              obtain ⟨rfl, rfl, rfl⟩ := H
                                              have hcz61_0 : wc.cell? ⟨gb117, 0, none⟩ = some (.int .i64 t111) := (blk_cell BK117.out 0).trans rfl
                                              have hcz61_1 : wc.cell? ⟨gb117, 1, none⟩ = some (.int .i64 t112) := (blk_cell BK117.out 1).trans rfl
                                              have hcz61_2 : wc.cell? ⟨gb117, 2, none⟩ = some (.bool false) := (blk_cell BK117.out 2).trans rfl
                                              have hcz61_3 : wc.cell? ⟨gb117, 3, none⟩ = some (.int .i64 t114) := (blk_cell BK117.out 3).trans rfl
                                              have hcz61_4 : wc.cell? ⟨gb117, 4, none⟩ = some (.int .i64 t115) := (blk_cell BK117.out 4).trans rfl
                                              have hfz61_0 := blk_frozen BK117.out 0
                                              have hfz61_1 := blk_frozen BK117.out 1
                                              have hfz61_2 := blk_frozen BK117.out 2
                                              have hfz61_3 := blk_frozen BK117.out 3
                                              have hfz61_4 := blk_frozen BK117.out 4
                                              go_wp2_with (first | ((with_reducible refine gate_callee (f := 25) rfl ?_); refine goesL_ (some 75) rfl rfl Try.func25 (by kernel_rfl) rfl #[.agg #[.int .i64 t111, .int .i64 t112, .bool false, .int .i64 t114, .int .i64 t115]] rfl (by (try simp only [List.map_toArray, List.map_cons, List.map_nil]); first | done | rfl | (simp only [List.length_drop, List.length_take]; rfl)) ?_; (with_reducible refine (sobriquetref01_right.calls t111 t112 false t114 t115 true _ A42.out).mono ?_); rintro e w62 ⟨rfl, hb⟩; refine ⟨_, rfl, ?_⟩; have n0_ := Aside0.mk (Kd.R_below (by (with_reducible repeat (first | apply Kd.R_alloc | apply Kd.R_drewN | apply Kd.R_drew)); exact HO_5.out) hb); have n1_ := Aside0.mk (blk_below (g := gb117) (o := .cells #[.int .i64 t111, .int .i64 t112, .bool false, .int .i64 t114, .int .i64 t115] 35 (0, 0)) (by (with_reducible repeat (first | refine blk_drewN ?_ _ | refine blk_drew ?_ | refine blk_alloc ?_ _)); exact BK117.out) hb); have n2_ := Aside0.mk (below_step (by repeat (first | (with_reducible first | exact HB.out | apply below_alloc | apply pw_below_drewN | apply below_drew1 | refine below_set ?_ GE117.out) | exact HB.out)) hb); clear HO_5; clear BK117; clear HB; have HO_5 := n0_; have BK117 := n1_; have HB := n2_; clear n0_ n1_ n2_; (try clear hb); (try clear hb2); (try clear hk); (try clear hi); have hcz63_0 : w62.cell? ⟨gb117, 0, none⟩ = some (.int .i64 t111) := (blk_cell BK117.out 0).trans rfl; have hcz63_1 : w62.cell? ⟨gb117, 1, none⟩ = some (.int .i64 t112) := (blk_cell BK117.out 1).trans rfl; have hcz63_2 : w62.cell? ⟨gb117, 2, none⟩ = some (.bool false) := (blk_cell BK117.out 2).trans rfl; have hcz63_3 : w62.cell? ⟨gb117, 3, none⟩ = some (.int .i64 t114) := (blk_cell BK117.out 3).trans rfl; have hcz63_4 : w62.cell? ⟨gb117, 4, none⟩ = some (.int .i64 t115) := (blk_cell BK117.out 4).trans rfl; have hfz63_0 := blk_frozen BK117.out 0; have hfz63_1 := blk_frozen BK117.out 1; have hfz63_2 := blk_frozen BK117.out 2; have hfz63_3 := blk_frozen BK117.out 3; have hfz63_4 := blk_frozen BK117.out 4))
                                              go_ret3
                                              exact ⟨by first | rfl | (simp [errW_none, errW_some] <;> rfl) | (simp only [← hji48]; first | rfl | (simp [errW_none, errW_some] <;> rfl)) | (simp [*, errW_none, errW_some] <;> rfl), by repeat (first | (with_reducible first | exact HB.out | apply below_alloc | apply pw_below_drewN | apply below_drew1 | refine below_set ?_ GE117.out) | exact HB.out)⟩
                                          · rw [if_neg c56] at H
                                            have c56b0 : ((x5_2.length : Int) == 0) = false := beq_eq_false_iff_ne.mpr c56
                                            have c56b1 : ((x5_2.length : Int) != 0) = true := bne_iff_ne.mpr c56
                                            have c56b2 : ¬ (x5_2 = []) := fun h_ => c56 (by rw [h_]; rfl)
                                            have H' := Aside0.mk H
                                            clear H
                                            have hcz64_0 : wc.cell? ⟨gb117, 0, none⟩ = some (.int .i64 t111) := (blk_cell BK117.out 0).trans rfl
                                            have hcz64_1 : wc.cell? ⟨gb117, 1, none⟩ = some (.int .i64 t112) := (blk_cell BK117.out 1).trans rfl
                                            have hcz64_2 : wc.cell? ⟨gb117, 2, none⟩ = some (.bool false) := (blk_cell BK117.out 2).trans rfl
                                            have hcz64_3 : wc.cell? ⟨gb117, 3, none⟩ = some (.int .i64 t114) := (blk_cell BK117.out 3).trans rfl
                                            have hcz64_4 : wc.cell? ⟨gb117, 4, none⟩ = some (.int .i64 t115) := (blk_cell BK117.out 4).trans rfl
                                            have hfz64_0 := blk_frozen BK117.out 0
                                            have hfz64_1 := blk_frozen BK117.out 1
                                            have hfz64_2 := blk_frozen BK117.out 2
                                            have hfz64_3 := blk_frozen BK117.out 3
                                            have hfz64_4 := blk_frozen BK117.out 4
                                            go_wp2_with (first | ((with_reducible refine gate_callee (f := 25) rfl ?_); refine goesL_ (some 75) rfl rfl Try.func25 (by kernel_rfl) rfl #[.agg #[.int .i64 t111, .int .i64 t112, .bool false, .int .i64 t114, .int .i64 t115]] rfl (by (try simp only [List.map_toArray, List.map_cons, List.map_nil]); first | done | rfl | (simp only [List.length_drop, List.length_take]; rfl)) ?_; (with_reducible refine (sobriquetref01_right.calls t111 t112 false t114 t115 true _ A42.out).mono ?_); rintro e w65 ⟨rfl, hb⟩; refine ⟨_, rfl, ?_⟩; have n0_ := Aside0.mk (Kd.R_below (by (with_reducible repeat (first | apply Kd.R_alloc | apply Kd.R_drewN | apply Kd.R_drew)); exact HO_5.out) hb); have n1_ := Aside0.mk (blk_below (g := gb117) (o := .cells #[.int .i64 t111, .int .i64 t112, .bool false, .int .i64 t114, .int .i64 t115] 35 (0, 0)) (by (with_reducible repeat (first | refine blk_drewN ?_ _ | refine blk_drew ?_ | refine blk_alloc ?_ _)); exact BK117.out) hb); have n2_ := Aside0.mk (below_step (by repeat (first | (with_reducible first | exact HB.out | apply below_alloc | apply pw_below_drewN | apply below_drew1 | refine below_set ?_ GE117.out) | exact HB.out)) hb); clear HO_5; clear BK117; clear HB; have HO_5 := n0_; have BK117 := n1_; have HB := n2_; clear n0_ n1_ n2_; (try clear hb); (try clear hb2); (try clear hk); (try clear hi); have hcz66_0 : w65.cell? ⟨gb117, 0, none⟩ = some (.int .i64 t111) := (blk_cell BK117.out 0).trans rfl; have hcz66_1 : w65.cell? ⟨gb117, 1, none⟩ = some (.int .i64 t112) := (blk_cell BK117.out 1).trans rfl; have hcz66_2 : w65.cell? ⟨gb117, 2, none⟩ = some (.bool false) := (blk_cell BK117.out 2).trans rfl; have hcz66_3 : w65.cell? ⟨gb117, 3, none⟩ = some (.int .i64 t114) := (blk_cell BK117.out 3).trans rfl; have hcz66_4 : w65.cell? ⟨gb117, 4, none⟩ = some (.int .i64 t115) := (blk_cell BK117.out 4).trans rfl; have hfz66_0 := blk_frozen BK117.out 0; have hfz66_1 := blk_frozen BK117.out 1; have hfz66_2 := blk_frozen BK117.out 2; have hfz66_3 := blk_frozen BK117.out 3; have hfz66_4 := blk_frozen BK117.out 4))
                                            go_roundg kj32
                                            case measure => have := HK1.out; have := HK2.out; have := HJ1.out; have := HJ20.out; have := HJ32.out; omega
                                            case rel => exact ⟨(x5_2), (wrap64 ((wrap64 (x6_1 + t115)) + t114)), (ji48), (by first | rfl | (simp; done) | (simp [*]; done)), (by first | rfl | (simp; done) | (simp only [← hji48] <;> (first | rfl | simp)) | (simp [*]; done)), H', ⟨by have := HK1.out; have := HK2.out; have := HJ1.out; have := HJ20.out; have := HJ32.out; omega⟩, ⟨by (with_reducible repeat (first | apply Kd.R_alloc | apply Kd.R_drewN | apply Kd.R_drew)); exact HO_5.out⟩, ⟨by repeat (first | (with_reducible first | exact HB.out | apply below_alloc | apply pw_below_drewN | apply below_drew1 | refine below_set ?_ GE117.out) | exact HB.out)⟩⟩
                                    · replace c43 := Bool.eq_false_iff.mpr c43
                                      subst c43
                                      have H1 : (some (x6_1, 7, 0)) = some (r1, r2, r3) := by rw [if_neg (show ¬ (false = true) by decide)] at H; exact H
                                      clear H
                                      have H := H1
                                      clear H1
                                      simp only [Option.some.injEq, Prod.mk.injEq] at H
                                      obtain ⟨rfl, rfl, rfl⟩ := H
                                      have hcz67_0 : wc.cell? ⟨gb117, 0, none⟩ = some (.int .i64 t111) := (blk_cell BK117.out 0).trans rfl
                                      have hcz67_1 : wc.cell? ⟨gb117, 1, none⟩ = some (.int .i64 t112) := (blk_cell BK117.out 1).trans rfl
                                      have hcz67_2 : wc.cell? ⟨gb117, 2, none⟩ = some (.bool t113) := (blk_cell BK117.out 2).trans rfl
                                      have hcz67_3 : wc.cell? ⟨gb117, 3, none⟩ = some (.int .i64 t114) := (blk_cell BK117.out 3).trans rfl
                                      have hcz67_4 : wc.cell? ⟨gb117, 4, none⟩ = some (.int .i64 t115) := (blk_cell BK117.out 4).trans rfl
                                      have hfz67_0 := blk_frozen BK117.out 0
                                      have hfz67_1 := blk_frozen BK117.out 1
                                      have hfz67_2 := blk_frozen BK117.out 2
                                      have hfz67_3 := blk_frozen BK117.out 3
                                      have hfz67_4 := blk_frozen BK117.out 4
                                      go_wp2_with (first | ((with_reducible refine gate_callee (f := 25) rfl ?_); refine goesL_ (some 75) rfl rfl Try.func25 (by kernel_rfl) rfl #[.agg #[.int .i64 t111, .int .i64 t112, .bool t113, .int .i64 t114, .int .i64 t115]] rfl (by (try simp only [List.map_toArray, List.map_cons, List.map_nil]); first | done | rfl | (simp only [List.length_drop, List.length_take]; rfl)) ?_; (with_reducible refine (sobriquetref01_right.calls t111 t112 t113 t114 t115 false _ A42.out).mono ?_); rintro e w68 ⟨rfl, hb⟩; refine ⟨_, rfl, ?_⟩; have n0_ := Aside0.mk (Kd.R_below (by (with_reducible repeat (first | apply Kd.R_alloc | apply Kd.R_drewN | apply Kd.R_drew)); exact HO_5.out) hb); have n1_ := Aside0.mk (blk_below (g := gb117) (o := .cells #[.int .i64 t111, .int .i64 t112, .bool t113, .int .i64 t114, .int .i64 t115] 35 (0, 0)) (by (with_reducible repeat (first | refine blk_drewN ?_ _ | refine blk_drew ?_ | refine blk_alloc ?_ _)); exact BK117.out) hb); have n2_ := Aside0.mk (below_step (by repeat (first | (with_reducible first | exact HB.out | apply below_alloc | apply pw_below_drewN | apply below_drew1 | refine below_set ?_ GE117.out) | exact HB.out)) hb); clear HO_5; clear BK117; clear HB; have HO_5 := n0_; have BK117 := n1_; have HB := n2_; clear n0_ n1_ n2_; (try clear hb); (try clear hb2); (try clear hk); (try clear hi)))
                                      go_ret3
                                      exact ⟨by first | rfl | (simp [errW_none, errW_some] <;> rfl) | (simp [*, errW_none, errW_some] <;> rfl), by repeat (first | (with_reducible first | exact HB.out | apply below_alloc | apply pw_below_drewN | apply below_drew1 | refine below_set ?_ GE117.out) | exact HB.out)⟩
                            · rw [if_neg c32] at H
                              have c32b0 : (t116 == 0) = false := beq_eq_false_iff_ne.mpr c32
                              have c32b1 : (t116 != 0) = true := bne_iff_ne.mpr c32
                              simp only [Option.some.injEq, Prod.mk.injEq] at H
                              obtain ⟨rfl, rfl, rfl⟩ := H
                              obtain ⟨i069, hi069, _, hsz69, _⟩ := info_parts info5
                              obtain ⟨A69, hcut69, hA69, hC69⟩ := print_mid_of (P := Try.prog) (Value.int .u8) 0 22 5 .i64 .i64 Try.underlying22 hi069 hsz69 A0 c0 l0 x6_1 x8_20 (of_decide_eq_true (by first | (with_reducible assumption) | assumption)) (by first | omega | exact of_decide_eq_true (by first | (with_reducible assumption) | assumption)) (of_decide_eq_true (by first | (with_reducible assumption) | assumption)) HC0.out
                              have HR110 := Aside0.mk (Kd.C_of_reads (h1 := fun _ => rfl) (hA69 _ (Kd.reads_of_C HR0.out)))
                              have HC110 := Aside0.mk hC69
                              clear hA69 hC69 hi069 hsz69
                              obtain ⟨yc69, hyc69⟩ : ∃ y_ : List Int, y_ = ((l0.take (x8_20 : Int).toNat).drop (x6_1 : Int).toNat) := ⟨_, rfl⟩
                              (try simp only [Int.reduceToNat] at hcut69 HR110 HC110)
                              rw [← hyc69] at hcut69 HR110 HC110
                              (try rw [← hyc69] at H')
                              rw [← hyc69] at A31
                              have Nyc69 := Aside0.mk hyc69
                              clear hyc69
                              go_wp2_with (first | ((with_reducible refine gate_callee (f := 17) rfl ?_); refine goesL_ (some 58) rfl rfl Try.func17 (by kernel_rfl) rfl #[.slice A69 yc69.length (c0 - x6_1.toNat)] rfl (by (try simp only [List.map_toArray, List.map_cons, List.map_nil]); first | done | (rw [show yc69.length = (x8_20.toNat - x6_1.toNat) from (by rw [List.length_drop, List.length_take]; have h_ : (x8_20 : Int) ≤ (l0.length : Int) := of_decide_eq_true (by first | (with_reducible assumption) | assumption); omega)] <;> rfl) | rfl | (simp only [List.length_drop, List.length_take]; rfl)) ?_; (with_reducible refine (sobriquetref01_Read.calls kj20 _ _ yc69 t111 t112 t113 t114 t115 t116 _ ?side1 ?side2 A31.out).mono ?_); (case side1 => repeat (first | exact (Kd.C_below HR110.out HB.out) | (with_reducible refine Kd.C_alloc ?_ _) | (with_reducible refine Kd.C_drewN ?_ _) | (with_reducible refine Kd.C_drew ?_))); (case side2 => exact HC110.out); rintro e w70 ⟨rfl, hb⟩; refine ⟨_, rfl, ?_⟩; have n0_ := Aside0.mk (Kd.R_below (by (with_reducible repeat (first | apply Kd.R_alloc | apply Kd.R_drewN | apply Kd.R_drew)); exact HO_5.out) hb); have n1_ := Aside0.mk (below_step (by repeat (first | (with_reducible first | exact HB.out | apply below_alloc | apply pw_below_drewN | apply below_drew1) | exact HB.out)) hb); clear HO_5; clear HB; have HO_5 := n0_; have HB := n1_; clear n0_ n1_; (try clear hb); (try clear hb2); (try clear hk); (try clear hi)) | ((with_reducible refine gate_dst (N := 9) rfl ?_); (try (refine gate_guard (by rfl) ?_; dsimp only)); refine box_event ?hg (N := 9) ?hd (cs := #[.int .i64 0, .int .i64 0, .bool false, .int .i64 0, .int .i64 0]) (t := 35) ?hr ?_; (case hd => rfl); (case hg => rfl); (case hr => first | (go_simp; done) | (go_simp; rfl)); intro gb117 hg w71 hbox hb; have n0_ := Aside0.mk (Kd.R_below (by (with_reducible repeat (first | apply Kd.R_alloc | apply Kd.R_drewN | apply Kd.R_drew)); exact HO_5.out) hb); have n1_ := Aside0.mk (below_step (by repeat (first | (with_reducible first | exact HB.out | apply below_alloc | apply pw_below_drewN | apply below_drew1) | exact HB.out)) hb); have n2_ := Aside0.mk (hbox); have n3_ := Aside0.mk ((by rw [hg]; exact (below_size (by repeat (first | (with_reducible first | exact HB.out | apply below_alloc | apply pw_below_drewN | apply below_drew1) | exact HB.out))) : w.heap.size ≤ gb117)); have n4_ := Aside0.mk ((by rw [hg]; exact (below_size (by repeat (first | (with_reducible first | exact HB.out | apply below_alloc | apply pw_below_drewN | apply below_drew1) | exact HB.out))) : w.heap.size ≤ gb117)); clear HO_5; clear HB; have HO_5 := n0_; have HB := n1_; have BK117 := n2_; have GW117 := n3_; have GE117 := n4_; clear n0_ n1_ n2_ n3_ n4_; clear hb hbox hg; have hcz72_0 : w71.cell? ⟨gb117, 0, none⟩ = some (.int .i64 0) := (blk_cell BK117.out 0).trans rfl; have hcz72_1 : w71.cell? ⟨gb117, 1, none⟩ = some (.int .i64 0) := (blk_cell BK117.out 1).trans rfl; have hcz72_2 : w71.cell? ⟨gb117, 2, none⟩ = some (.bool false) := (blk_cell BK117.out 2).trans rfl; have hcz72_3 : w71.cell? ⟨gb117, 3, none⟩ = some (.int .i64 0) := (blk_cell BK117.out 3).trans rfl; have hcz72_4 : w71.cell? ⟨gb117, 4, none⟩ = some (.int .i64 0) := (blk_cell BK117.out 4).trans rfl; have hfz72_0 := blk_frozen BK117.out 0; have hfz72_1 := blk_frozen BK117.out 1; have hfz72_2 := blk_frozen BK117.out 2; have hfz72_3 := blk_frozen BK117.out 3; have hfz72_4 := blk_frozen BK117.out 4))
                              go_ret3
                              exact ⟨by first | rfl | (simp [errW_none, errW_some] <;> rfl) | (simp [*, errW_none, errW_some] <;> rfl), by repeat (first | (with_reducible first | exact HB.out | apply below_alloc | apply pw_below_drewN | apply below_drew1 | refine below_set ?_ GE117.out) | exact HB.out)⟩
                          · rw [if_neg c30] at H
                            exact absurd H (by simp)
                        · rw [if_neg c29] at H
                          exact absurd H (by simp)
                      · rw [if_neg c28] at H
                        exact absurd H (by simp)

end Go.Proofs.Ytogbpdmncnldhaa.MWellExact
