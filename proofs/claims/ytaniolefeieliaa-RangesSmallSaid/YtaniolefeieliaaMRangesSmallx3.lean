-- Written by a program of this session over the translation; checked by Lean alone.
import Derived.Test.YtaniolefeieliaaMRangesSmallx0
import Derived.Test.YtaniolefeieliaaMRangesSmallx1
import Derived.Test.YtaniolefeieliaaMRangesSmallx2
namespace Go.Proofs.Ytaniolefeieliaa.MRangesSmall
open Go.RowKit Go.Proofs.YtaniolefeieliaaW.PrintWords Go.Proofs.YtaniolefeieliaaW.PrintLast Go.Proofs.YtaniolefeieliaaW.PrintMore
attribute [local go_sem] max2_int min2_int max_two min_two max_three min_three max_four min_four   -- for this text's walks alone
set_option linter.unusedVariables false
set_option linter.unusedSimpArgs false
set_option linter.unnecessarySimpa false

/-! ### sobriquetlaw05_RangesSmall: function 3 -/
mutual
def sobriquetlaw05_RangesSmall.l0 : Nat → List (S44) → Int → Int → Int → List Int → List Int → Option (Bool)
  | 0, _, _, _, _, _, _ => none
  | k + 1, x0, x5, x6, x7, x160000, x160001 => if x7 < (x160000.length : Int) then (if 0 ≤ x7 then (if (rd x160000 x7) < 0 then (some false) else (if (rd x160000 x7) > x6 then (some false) else (if (rd x160000 x7) = x6 then (sobriquetlaw05_RangesSmall.l0 k x0 x5 (wrap64 (x6 + 1)) (wrap64 (x7 + 1)) x160000 x160001) else (sobriquetlaw05_RangesSmall.l0 k x0 x5 x6 (wrap64 (x7 + 1)) x160000 x160001)))) else (none)) else (sobriquetlaw05_RangesSmall.l1 k x0 x5 x6 0 x160000 x160001)
def sobriquetlaw05_RangesSmall.l1 : Nat → List (S44) → Int → Int → Int → List Int → List Int → Option (Bool)
  | 0, _, _, _, _, _, _ => none
  | k + 1, x0, x5, x6, x8, x160000, x160001 => if x8 < x5 then (sobriquetlaw05_RangesSmall.l2 k x0 x5 x6 x8 0 x160000 x160001) else (if x6 = x5 then (if x5 ≤ (wrap64 ((wrap64 (3 * (x0.length : Int))) + 1)) then ((sobriquetlaw05_wakes.f k).bind fun t172 => (some t172)) else (some false)) else (some false))
def sobriquetlaw05_RangesSmall.l2 : Nat → List (S44) → Int → Int → Int → Int → List Int → List Int → Option (Bool)
  | 0, _, _, _, _, _, _, _ => none
  | k + 1, x0, x5, x6, x8, x9, x160000, x160001 => if x9 < x8 then (if 0 ≤ (wrap64 (256 * x8)) then (if (wrap64 (256 * x8)) ≤ (wrap64 ((wrap64 (256 * x8)) + 256)) then (if (wrap64 ((wrap64 (256 * x8)) + 256)) ≤ (x160001.length : Int) then (if 0 ≤ (wrap64 (256 * x9)) then (if (wrap64 (256 * x9)) ≤ (wrap64 ((wrap64 (256 * x9)) + 256)) then (if (wrap64 ((wrap64 (256 * x9)) + 256)) ≤ (x160001.length : Int) then ((sobriquetkeep_Ints.f k ((x160001.take ((wrap64 ((wrap64 (256 * x8)) + 256)) : Int).toNat).drop ((wrap64 (256 * x8)) : Int).toNat) ((x160001.take ((wrap64 ((wrap64 (256 * x9)) + 256)) : Int).toNat).drop ((wrap64 (256 * x9)) : Int).toNat)).bind fun t171 => (if t171 = true then (some false) else (sobriquetlaw05_RangesSmall.l2 k x0 x5 x6 x8 (wrap64 (x9 + 1)) x160000 x160001))) else (none)) else (none)) else (none)) else (none)) else (none)) else (none)) else (sobriquetlaw05_RangesSmall.l1 k x0 x5 x6 (wrap64 (x8 + 1)) x160000 x160001)
end
def sobriquetlaw05_RangesSmall.f (k : Nat) (l0 : List (S44)) : Option (Bool) := if (l0.length : Int) > 60 then (some true) else ((ranges_Pack.f k l0).bind fun bt152 => (if bt152.2.2 = 0 then (if (bt152.1.length : Int) = 4352 then (if (bt152.2.1.length : Int) = (wrap64 (256 * (wrap64 ((bt152.2.1.length : Int) / 256)))) then (sobriquetlaw05_RangesSmall.l0 k l0 (wrap64 ((bt152.2.1.length : Int) / 256)) 0 0 bt152.1 bt152.2.1) else (some false)) else (some false)) else (if bt152.2.2 = 1 then ((sobriquetlaw05_wakes.f k).bind fun t173 => (some t173)) else (some false))))
theorem sobriquetlaw05_RangesSmall.mono_l : ∀ k, (∀ y0 y1 y2 y3 y4 y5, LeO (sobriquetlaw05_RangesSmall.l0 k y0 y1 y2 y3 y4 y5) (sobriquetlaw05_RangesSmall.l0 (k + 1) y0 y1 y2 y3 y4 y5)) ∧ (∀ y0 y1 y2 y3 y4 y5, LeO (sobriquetlaw05_RangesSmall.l1 k y0 y1 y2 y3 y4 y5) (sobriquetlaw05_RangesSmall.l1 (k + 1) y0 y1 y2 y3 y4 y5)) ∧ (∀ y0 y1 y2 y3 y4 y5 y6, LeO (sobriquetlaw05_RangesSmall.l2 k y0 y1 y2 y3 y4 y5 y6) (sobriquetlaw05_RangesSmall.l2 (k + 1) y0 y1 y2 y3 y4 y5 y6))
  | 0 => ⟨fun _ _ _ _ _ _ r h => by simp [sobriquetlaw05_RangesSmall.l0] at h, fun _ _ _ _ _ _ r h => by simp [sobriquetlaw05_RangesSmall.l1] at h, fun _ _ _ _ _ _ _ r h => by simp [sobriquetlaw05_RangesSmall.l2] at h⟩
  | k + 1 => by
    obtain ⟨ih0, ih1, ih2⟩ := sobriquetlaw05_RangesSmall.mono_l k
    refine ⟨?_, ?_, ?_⟩
    · intro y0 y1 y2 y3 y4 y5
      unfold sobriquetlaw05_RangesSmall.l0
      repeat' first
      | (with_reducible exact ih0 _ _ _ _ _ _)
      | (with_reducible exact ih1 _ _ _ _ _ _)
      | (with_reducible exact ih2 _ _ _ _ _ _ _)
      | (with_reducible exact ranges_Pack.mono _ _)
      | (with_reducible exact sobriquetkeep_Ints.mono _ _ _)
      | (with_reducible exact sobriquetlaw05_wakes.mono _)
      | (with_reducible exact LeO.refl _)
      | (with_reducible exact LeO.none _)
      | (with_reducible refine LeO.ite ?_ ?_)
      | (with_reducible refine LeO.bind ?_ (fun _ => ?_))
      | exact ih0 _ _ _ _ _ _
      | exact ih1 _ _ _ _ _ _
      | exact ih2 _ _ _ _ _ _ _
      | exact ranges_Pack.mono _ _
      | exact sobriquetkeep_Ints.mono _ _ _
      | exact sobriquetlaw05_wakes.mono _
      | exact LeO.none _
      | refine LeO.ite ?_ ?_
      | refine LeO.bind ?_ (fun _ => ?_)
    · intro y0 y1 y2 y3 y4 y5
      unfold sobriquetlaw05_RangesSmall.l1
      repeat' first
      | (with_reducible exact ih0 _ _ _ _ _ _)
      | (with_reducible exact ih1 _ _ _ _ _ _)
      | (with_reducible exact ih2 _ _ _ _ _ _ _)
      | (with_reducible exact ranges_Pack.mono _ _)
      | (with_reducible exact sobriquetkeep_Ints.mono _ _ _)
      | (with_reducible exact sobriquetlaw05_wakes.mono _)
      | (with_reducible exact LeO.refl _)
      | (with_reducible exact LeO.none _)
      | (with_reducible refine LeO.ite ?_ ?_)
      | (with_reducible refine LeO.bind ?_ (fun _ => ?_))
      | exact ih0 _ _ _ _ _ _
      | exact ih1 _ _ _ _ _ _
      | exact ih2 _ _ _ _ _ _ _
      | exact ranges_Pack.mono _ _
      | exact sobriquetkeep_Ints.mono _ _ _
      | exact sobriquetlaw05_wakes.mono _
      | exact LeO.none _
      | refine LeO.ite ?_ ?_
      | refine LeO.bind ?_ (fun _ => ?_)
    · intro y0 y1 y2 y3 y4 y5 y6
      unfold sobriquetlaw05_RangesSmall.l2
      repeat' first
      | (with_reducible exact ih0 _ _ _ _ _ _)
      | (with_reducible exact ih1 _ _ _ _ _ _)
      | (with_reducible exact ih2 _ _ _ _ _ _ _)
      | (with_reducible exact ranges_Pack.mono _ _)
      | (with_reducible exact sobriquetkeep_Ints.mono _ _ _)
      | (with_reducible exact sobriquetlaw05_wakes.mono _)
      | (with_reducible exact LeO.refl _)
      | (with_reducible exact LeO.none _)
      | (with_reducible refine LeO.ite ?_ ?_)
      | (with_reducible refine LeO.bind ?_ (fun _ => ?_))
      | exact ih0 _ _ _ _ _ _
      | exact ih1 _ _ _ _ _ _
      | exact ih2 _ _ _ _ _ _ _
      | exact ranges_Pack.mono _ _
      | exact sobriquetkeep_Ints.mono _ _ _
      | exact sobriquetlaw05_wakes.mono _
      | exact LeO.none _
      | refine LeO.ite ?_ ?_
      | refine LeO.bind ?_ (fun _ => ?_)
theorem sobriquetlaw05_RangesSmall.mono : ∀ a0 k, LeO (sobriquetlaw05_RangesSmall.f k a0) (sobriquetlaw05_RangesSmall.f (k + 1) a0) := by
  intro a0 k
  obtain ⟨ih0, ih1, ih2⟩ := sobriquetlaw05_RangesSmall.mono_l k
  unfold sobriquetlaw05_RangesSmall.f
  repeat' first
      | (with_reducible exact ih0 _ _ _ _ _ _)
      | (with_reducible exact ih1 _ _ _ _ _ _)
      | (with_reducible exact ih2 _ _ _ _ _ _ _)
      | (with_reducible exact ranges_Pack.mono _ _)
      | (with_reducible exact sobriquetkeep_Ints.mono _ _ _)
      | (with_reducible exact sobriquetlaw05_wakes.mono _)
      | (with_reducible exact LeO.refl _)
      | (with_reducible exact LeO.none _)
      | (with_reducible refine LeO.ite ?_ ?_)
      | (with_reducible refine LeO.bind ?_ (fun _ => ?_))
      | exact ih0 _ _ _ _ _ _
      | exact ih1 _ _ _ _ _ _
      | exact ih2 _ _ _ _ _ _ _
      | exact ranges_Pack.mono _ _
      | exact sobriquetkeep_Ints.mono _ _ _
      | exact sobriquetlaw05_wakes.mono _
      | exact LeO.none _
      | refine LeO.ite ?_ ?_
      | refine LeO.bind ?_ (fun _ => ?_)
set_option maxHeartbeats 8000000 in
set_option maxRecDepth 100000 in
theorem sobriquetlaw05_RangesSmall.calls (k : Nat) (A0 : Option Addr) (c0 : Nat) (l0 : List (S44)) (r : Bool) (w : World) (hr0 : Kd.C k44 w A0 l0.length l0) (hc0 : l0.length ≤ c0) (h : sobriquetlaw05_RangesSmall.f k l0 = some r) (hrt0 : r = true) :
    Calls Try.prog 3 #[.slice A0 l0.length c0] w fun e w' => e = .returned (.bool r) ∧ Below w.heap.size w w' := by
  have hu25 := Try.underlying25
  have HR0 := Aside0.mk hr0
  have HC0 := Aside0.mk hc0
  clear hr0 hc0
  have HB := Aside0.mk (Below.refl w.heap.size w)
  have hrt := Aside0.mk hrt0
  clear hrt0
  have H : (if (l0.length : Int) > 60 then (some true) else ((ranges_Pack.f k l0).bind fun bt152 => (if bt152.2.2 = 0 then (if (bt152.1.length : Int) = 4352 then (if (bt152.2.1.length : Int) = (wrap64 (256 * (wrap64 ((bt152.2.1.length : Int) / 256)))) then (sobriquetlaw05_RangesSmall.l0 k l0 (wrap64 ((bt152.2.1.length : Int) / 256)) 0 0 bt152.1 bt152.2.1) else (some false)) else (some false)) else (if bt152.2.2 = 1 then ((sobriquetlaw05_wakes.f k).bind fun t173 => (some t173)) else (some false))))) = some r := h
  clear h
  by_cases c2 : (l0.length : Int) > 60
  · rw [if_pos c2] at H
    have c2b0 : decide (60 < (l0.length : Int)) = true := decide_eq_true c2
    have c2b1 : decide (60 < l0.length) = true := decide_eq_true (by omega)
    clear c2
    obtain rfl := Option.some.inj H
    go_enter Try.func3, Try.ntmps3
    go_wp2
    repeat (go_quiet (fail); try go_wp2)
    go_ret
    exact ⟨by first | rfl | (simp [errW_none, errW_some] <;> rfl) | (simp [*, errW_none, errW_some] <;> rfl), by repeat (first | (with_reducible first | exact HB.out | apply below_alloc | apply pw_below_drewN | apply below_drew1) | exact HB.out)⟩
  · rw [if_neg c2] at H
    have c2b0 : decide (60 < (l0.length : Int)) = false := decide_eq_false c2
    have c2b1 : decide (60 < l0.length) = false := decide_eq_false (by omega)
    clear c2
    replace H := Option.bind_eq_some_iff.mp H
    obtain ⟨⟨t152, t155, t158⟩, A30, H⟩ := H
    replace H : (if t158 = 0 then (if (t152.length : Int) = 4352 then (if (t155.length : Int) = (wrap64 (256 * (wrap64 ((t155.length : Int) / 256)))) then (sobriquetlaw05_RangesSmall.l0 k l0 (wrap64 ((t155.length : Int) / 256)) 0 0 t152 t155) else (some false)) else (some false)) else (if t158 = 1 then ((sobriquetlaw05_wakes.f k).bind fun t173 => (some t173)) else (some false))) = some r := H
    have A3 := Aside0.mk A30
    clear A30
    by_cases c4 : t158 = 0
    · rw [if_pos c4] at H
      have c4b0 : (t158 == 0) = true := beq_iff_eq.mpr c4
      have c4b1 : (t158 != 0) = false := bne_eq_false_iff_eq.mpr c4
      clear c4
      by_cases c5 : (t152.length : Int) = 4352
      · rw [if_pos c5] at H
        have c5b0 : ((t152.length : Int) == 4352) = true := beq_iff_eq.mpr c5
        have c5b1 : ((t152.length : Int) != 4352) = false := bne_eq_false_iff_eq.mpr c5
        clear c5
        by_cases c6 : (t155.length : Int) = (wrap64 (256 * (wrap64 ((t155.length : Int) / 256))))
        · rw [if_pos c6] at H
          have c6b0 : ((t155.length : Int) == (wrap64 (256 * (wrap64 ((t155.length : Int) / 256))))) = true := beq_iff_eq.mpr c6
          have c6b1 : ((t155.length : Int) != (wrap64 (256 * (wrap64 ((t155.length : Int) / 256))))) = false := bne_eq_false_iff_eq.mpr c6
          clear c6
          have H' := Aside0.mk H
          clear H
          go_enter Try.func3, Try.ntmps3
          go_wp2_with (first | (go_at_call 7; (with_reducible refine (ranges_Pack.calls k _ _ l0 t152 t155 t158 _ ?side1 ?side2 A3.out).mono ?_); (case side1 => repeat (first | exact HR0.out | (with_reducible refine Kd.C_alloc ?_ _) | (with_reducible refine Kd.C_drewN ?_ _) | (with_reducible refine Kd.C_drew ?_))); (case side2 => exact HC0.out); rintro e w7 ⟨v153, v156, rfl, ho0, ho1, hb⟩; have n0_ := Aside0.mk (Kd.R_lower ho0 (below_size (by repeat (first | (with_reducible first | exact HB.out | apply below_alloc | apply pw_below_drewN | apply below_drew1) | exact HB.out)))); have n1_ := Aside0.mk (Kd.R_lower ho1 (below_size (by repeat (first | (with_reducible first | exact HB.out | apply below_alloc | apply pw_below_drewN | apply below_drew1) | exact HB.out)))); have n2_ := Aside0.mk (below_step (by repeat (first | (with_reducible first | exact HB.out | apply below_alloc | apply pw_below_drewN | apply below_drew1) | exact HB.out)) hb); clear HB; have HO154 := n0_; have HO157 := n1_; have HB := n2_; clear n0_ n1_ n2_; (try clear hb); (try clear hb2); (try clear hk); (try clear hi); (try clear ho0); (try clear ho1)) | ((with_reducible refine gate_dst (N := 3) rfl ?_); (try (refine gate_guard (by rfl) ?_; dsimp only)); refine box_event ?hg (N := 3) ?hd (cs := #[.slice none 0 0, .slice none 0 0]) (t := 25) ?hr ?_; (case hd => rfl); (case hg => rfl); (case hr => first | (go_simp; done) | (go_simp; rfl)); intro gb159 hg w8 hbox hb; have n0_ := Aside0.mk (Kd.R_below (by (with_reducible repeat (first | apply Kd.R_alloc | apply Kd.R_drewN | apply Kd.R_drew)); exact HO154.out) hb); have n1_ := Aside0.mk (Kd.R_below (by (with_reducible repeat (first | apply Kd.R_alloc | apply Kd.R_drewN | apply Kd.R_drew)); exact HO157.out) hb); have n2_ := Aside0.mk (below_step (by repeat (first | (with_reducible first | exact HB.out | apply below_alloc | apply pw_below_drewN | apply below_drew1) | exact HB.out)) hb); have n3_ := Aside0.mk (hbox); have n4_ := Aside0.mk ((by rw [hg]; exact (below_size (by repeat (first | (with_reducible first | exact HB.out | apply below_alloc | apply pw_below_drewN | apply below_drew1) | exact HB.out))) : w.heap.size ≤ gb159)); have n5_ := Aside0.mk ((by rw [hg]; exact (below_size (by repeat (first | (with_reducible first | exact HB.out | apply below_alloc | apply pw_below_drewN | apply below_drew1) | exact HB.out))) : w.heap.size ≤ gb159)); clear HO154; clear HO157; clear HB; have HO154 := n0_; have HO157 := n1_; have HB := n2_; have BK159 := n3_; have GW159 := n4_; have GE159 := n5_; clear n0_ n1_ n2_ n3_ n4_ n5_; clear hb hbox hg; obtain ⟨Ao9, co9, eo9⟩ := Kd.R_slice HO154.out; subst eo9; have hcz10_0 : w8.cell? ⟨gb159, 0, none⟩ = some (.slice none 0 0) := (blk_cell BK159.out 0).trans rfl; have hcz10_1 : w8.cell? ⟨gb159, 1, none⟩ = some (.slice none 0 0) := (blk_cell BK159.out 1).trans rfl; have hfz10_0 := blk_frozen BK159.out 0; have hfz10_1 := blk_frozen BK159.out 1; obtain ⟨Ao11, co11, eo11⟩ := Kd.R_slice HO157.out; subst eo11))
          repeat (go_quiet (first | (go_at_call 7; (with_reducible refine (ranges_Pack.calls k _ _ l0 t152 t155 t158 _ ?side1 ?side2 A3.out).mono ?_); (case side1 => repeat (first | exact HR0.out | (with_reducible refine Kd.C_alloc ?_ _) | (with_reducible refine Kd.C_drewN ?_ _) | (with_reducible refine Kd.C_drew ?_))); (case side2 => exact HC0.out); rintro e w7 ⟨v153, v156, rfl, ho0, ho1, hb⟩; have n0_ := Aside0.mk (Kd.R_lower ho0 (below_size (by repeat (first | (with_reducible first | exact HB.out | apply below_alloc | apply pw_below_drewN | apply below_drew1) | exact HB.out)))); have n1_ := Aside0.mk (Kd.R_lower ho1 (below_size (by repeat (first | (with_reducible first | exact HB.out | apply below_alloc | apply pw_below_drewN | apply below_drew1) | exact HB.out)))); have n2_ := Aside0.mk (below_step (by repeat (first | (with_reducible first | exact HB.out | apply below_alloc | apply pw_below_drewN | apply below_drew1) | exact HB.out)) hb); clear HB; have HO154 := n0_; have HO157 := n1_; have HB := n2_; clear n0_ n1_ n2_; (try clear hb); (try clear hb2); (try clear hk); (try clear hi); (try clear ho0); (try clear ho1)) | ((with_reducible refine gate_dst (N := 3) rfl ?_); (try (refine gate_guard (by rfl) ?_; dsimp only)); refine box_event ?hg (N := 3) ?hd (cs := #[.slice none 0 0, .slice none 0 0]) (t := 25) ?hr ?_; (case hd => rfl); (case hg => rfl); (case hr => first | (go_simp; done) | (go_simp; rfl)); intro gb159 hg w8 hbox hb; have n0_ := Aside0.mk (Kd.R_below (by (with_reducible repeat (first | apply Kd.R_alloc | apply Kd.R_drewN | apply Kd.R_drew)); exact HO154.out) hb); have n1_ := Aside0.mk (Kd.R_below (by (with_reducible repeat (first | apply Kd.R_alloc | apply Kd.R_drewN | apply Kd.R_drew)); exact HO157.out) hb); have n2_ := Aside0.mk (below_step (by repeat (first | (with_reducible first | exact HB.out | apply below_alloc | apply pw_below_drewN | apply below_drew1) | exact HB.out)) hb); have n3_ := Aside0.mk (hbox); have n4_ := Aside0.mk ((by rw [hg]; exact (below_size (by repeat (first | (with_reducible first | exact HB.out | apply below_alloc | apply pw_below_drewN | apply below_drew1) | exact HB.out))) : w.heap.size ≤ gb159)); have n5_ := Aside0.mk ((by rw [hg]; exact (below_size (by repeat (first | (with_reducible first | exact HB.out | apply below_alloc | apply pw_below_drewN | apply below_drew1) | exact HB.out))) : w.heap.size ≤ gb159)); clear HO154; clear HO157; clear HB; have HO154 := n0_; have HO157 := n1_; have HB := n2_; have BK159 := n3_; have GW159 := n4_; have GE159 := n5_; clear n0_ n1_ n2_ n3_ n4_ n5_; clear hb hbox hg; obtain ⟨Ao9, co9, eo9⟩ := Kd.R_slice HO154.out; subst eo9; have hcz10_0 : w8.cell? ⟨gb159, 0, none⟩ = some (.slice none 0 0) := (blk_cell BK159.out 0).trans rfl; have hcz10_1 : w8.cell? ⟨gb159, 1, none⟩ = some (.slice none 0 0) := (blk_cell BK159.out 1).trans rfl; have hfz10_0 := blk_frozen BK159.out 0; have hfz10_1 := blk_frozen BK159.out 1; obtain ⟨Ao11, co11, eo11⟩ := Kd.R_slice HO157.out; subst eo11)); try go_wp2_with (first | (go_at_call 7; (with_reducible refine (ranges_Pack.calls k _ _ l0 t152 t155 t158 _ ?side1 ?side2 A3.out).mono ?_); (case side1 => repeat (first | exact HR0.out | (with_reducible refine Kd.C_alloc ?_ _) | (with_reducible refine Kd.C_drewN ?_ _) | (with_reducible refine Kd.C_drew ?_))); (case side2 => exact HC0.out); rintro e w7 ⟨v153, v156, rfl, ho0, ho1, hb⟩; have n0_ := Aside0.mk (Kd.R_lower ho0 (below_size (by repeat (first | (with_reducible first | exact HB.out | apply below_alloc | apply pw_below_drewN | apply below_drew1) | exact HB.out)))); have n1_ := Aside0.mk (Kd.R_lower ho1 (below_size (by repeat (first | (with_reducible first | exact HB.out | apply below_alloc | apply pw_below_drewN | apply below_drew1) | exact HB.out)))); have n2_ := Aside0.mk (below_step (by repeat (first | (with_reducible first | exact HB.out | apply below_alloc | apply pw_below_drewN | apply below_drew1) | exact HB.out)) hb); clear HB; have HO154 := n0_; have HO157 := n1_; have HB := n2_; clear n0_ n1_ n2_; (try clear hb); (try clear hb2); (try clear hk); (try clear hi); (try clear ho0); (try clear ho1)) | ((with_reducible refine gate_dst (N := 3) rfl ?_); (try (refine gate_guard (by rfl) ?_; dsimp only)); refine box_event ?hg (N := 3) ?hd (cs := #[.slice none 0 0, .slice none 0 0]) (t := 25) ?hr ?_; (case hd => rfl); (case hg => rfl); (case hr => first | (go_simp; done) | (go_simp; rfl)); intro gb159 hg w8 hbox hb; have n0_ := Aside0.mk (Kd.R_below (by (with_reducible repeat (first | apply Kd.R_alloc | apply Kd.R_drewN | apply Kd.R_drew)); exact HO154.out) hb); have n1_ := Aside0.mk (Kd.R_below (by (with_reducible repeat (first | apply Kd.R_alloc | apply Kd.R_drewN | apply Kd.R_drew)); exact HO157.out) hb); have n2_ := Aside0.mk (below_step (by repeat (first | (with_reducible first | exact HB.out | apply below_alloc | apply pw_below_drewN | apply below_drew1) | exact HB.out)) hb); have n3_ := Aside0.mk (hbox); have n4_ := Aside0.mk ((by rw [hg]; exact (below_size (by repeat (first | (with_reducible first | exact HB.out | apply below_alloc | apply pw_below_drewN | apply below_drew1) | exact HB.out))) : w.heap.size ≤ gb159)); have n5_ := Aside0.mk ((by rw [hg]; exact (below_size (by repeat (first | (with_reducible first | exact HB.out | apply below_alloc | apply pw_below_drewN | apply below_drew1) | exact HB.out))) : w.heap.size ≤ gb159)); clear HO154; clear HO157; clear HB; have HO154 := n0_; have HO157 := n1_; have HB := n2_; have BK159 := n3_; have GW159 := n4_; have GE159 := n5_; clear n0_ n1_ n2_ n3_ n4_ n5_; clear hb hbox hg; obtain ⟨Ao9, co9, eo9⟩ := Kd.R_slice HO154.out; subst eo9; have hcz10_0 : w8.cell? ⟨gb159, 0, none⟩ = some (.slice none 0 0) := (blk_cell BK159.out 0).trans rfl; have hcz10_1 : w8.cell? ⟨gb159, 1, none⟩ = some (.slice none 0 0) := (blk_cell BK159.out 1).trans rfl; have hfz10_0 := blk_frozen BK159.out 0; have hfz10_1 := blk_frozen BK159.out 1; obtain ⟨Ao11, co11, eo11⟩ := Kd.R_slice HO157.out; subst eo11)))
          go_loopg [6, 7] k (fun kq v6 v7 w' => ∃ (x6_1 : Int) (x7_1 : Int), v6 = .int .i64 x6_1 ∧ v7 = .int .i64 x7_1 ∧ Aside0 (sobriquetlaw05_RangesSmall.l0 kq l0 (wrap64 ((t155.length : Int) / 256)) x6_1 x7_1 t152 t155 = some r) ∧ Aside0 (kq ≤ k) ∧ Aside0 (Kd.R (Kd.int .i64) 3 w' w.heap.size (fun k_ => some k_ ≠ ((.slice Ao11 t155.length co11) : Value).ownBlock) (.slice Ao9 t152.length co9) t152) ∧ Aside0 (Kd.R (Kd.int .i64) 3 w' w.heap.size (fun k_ => some k_ ≠ ((.slice Ao9 t152.length co9) : Value).ownBlock) (.slice Ao11 t155.length co11) t155) ∧ Aside0 (w'.heap[gb159]? = some (.cells #[(.slice Ao9 t152.length co9), (.slice Ao11 t155.length co11)] 25 (0, 0))) ∧ Aside0 (Below w.heap.size w w'))
          case atStart => exact ⟨(0), (0), (by first | rfl | (simp; done) | (simp [*]; done)), (by first | rfl | (simp; done) | (simp [*]; done)), H', ⟨Nat.le_refl _⟩, ⟨by (with_reducible repeat (first | apply Kd.R_alloc | apply Kd.R_drewN | apply Kd.R_drew)); exact Kd.R_mono (Kd.R_far (p := ⟨gb159, 1, none⟩) (Kd.R_far (p := ⟨gb159, 0, none⟩) (Kd.R_types HO154.out BK159.out (by decide)) (fun _ hk => hk.2) (.slice Ao9 t152.length co9)) (fun _ hk => hk.2) (.slice Ao11 t155.length co11)) (fun _ hk => hk.1)⟩, ⟨by (with_reducible repeat (first | apply Kd.R_alloc | apply Kd.R_drewN | apply Kd.R_drew)); exact Kd.R_mono (Kd.R_far (p := ⟨gb159, 1, none⟩) (Kd.R_far (p := ⟨gb159, 0, none⟩) (Kd.R_types HO157.out BK159.out (by decide)) (fun _ hk => hk.2) (.slice Ao9 t152.length co9)) (fun _ hk => hk.2) (.slice Ao11 t155.length co11)) (fun _ hk => hk.1)⟩, ⟨by (with_reducible repeat (first | refine blk_drewN ?_ _ | refine blk_drew ?_ | refine blk_alloc ?_ _)); refine blk_put (cs := #[.slice Ao9 t152.length co9, .slice none 0 0]) ?_ 1 _ rfl; (with_reducible repeat (first | refine blk_drewN ?_ _ | refine blk_drew ?_ | refine blk_alloc ?_ _)); refine blk_put (cs := #[.slice none 0 0, .slice none 0 0]) ?_ 0 _ rfl; (with_reducible repeat (first | refine blk_drewN ?_ _ | refine blk_drew ?_ | refine blk_alloc ?_ _)); exact BK159.out⟩, ⟨by repeat (first | (with_reducible first | exact HB.out | apply below_alloc | apply pw_below_drewN | apply below_drew1 | refine below_set ?_ GE159.out) | exact HB.out)⟩⟩
          case round =>
            clear H'
            try clear c2
            try clear c2b0
            try clear c2b1
            try clear p2
            try clear c3
            try clear c4
            try clear c4b0
            try clear c4b1
            try clear c5
            try clear c5b0
            try clear c5b1
            try clear c6
            try clear c6b0
            try clear c6b1
            try clear p6
            try clear hcz10_0
            try clear hcz10_1
            try clear hfz10_0
            try clear hfz10_1
            obtain ⟨x6_1, x7_1, rfl, rfl, HA, HK1, HO_160000, HO_160001, BK159, HB⟩ := hrel
            cases gk with
            | zero => exact absurd HA.out (by simp [sobriquetlaw05_RangesSmall.l0])
            | succ k1 =>
              have H := HA.out
              clear HA
              simp only [sobriquetlaw05_RangesSmall.l0] at H
              by_cases c12 : x7_1 < (t152.length : Int)
              · rw [if_pos c12] at H
                have c12b0 : decide (x7_1 < (t152.length : Int)) = true := decide_eq_true c12
                clear c12
                by_cases c13 : 0 ≤ x7_1
                · rw [if_pos c13] at H
                  have c13b0 : decide (0 ≤ x7_1) = true := decide_eq_true c13
                  clear c13
                  by_cases c14 : (rd t152 x7_1) < 0
                  · rw [if_pos c14] at H
                    have c14b0 : decide ((rd t152 x7_1) < 0) = true := decide_eq_true c14
                    clear c14
                    exact absurd ((Option.some.inj H).trans hrt.out) (by decide)
                  · rw [if_neg c14] at H
                    have c14b0 : decide ((rd t152 x7_1) < 0) = false := decide_eq_false c14
                    clear c14
                    by_cases c15 : (rd t152 x7_1) > x6_1
                    · rw [if_pos c15] at H
                      have c15b0 : decide (x6_1 < (rd t152 x7_1)) = true := decide_eq_true c15
                      clear c15
                      exact absurd ((Option.some.inj H).trans hrt.out) (by decide)
                    · rw [if_neg c15] at H
                      have c15b0 : decide (x6_1 < (rd t152 x7_1)) = false := decide_eq_false c15
                      clear c15
                      by_cases c16 : (rd t152 x7_1) = x6_1
                      · rw [if_pos c16] at H
                        have c16b0 : ((rd t152 x7_1) == x6_1) = true := beq_iff_eq.mpr c16
                        have c16b1 : ((rd t152 x7_1) != x6_1) = false := bne_eq_false_iff_eq.mpr c16
                        clear c16
                        have H' := Aside0.mk H
                        clear H
                        have hcz17_0 : wr.cell? ⟨gb159, 0, none⟩ = some (.slice Ao9 t152.length co9) := (blk_cell BK159.out 0).trans rfl
                        have hcz17_1 : wr.cell? ⟨gb159, 1, none⟩ = some (.slice Ao11 t155.length co11) := (blk_cell BK159.out 1).trans rfl
                        have hfz17_0 := blk_frozen BK159.out 0
                        have hfz17_1 := blk_frozen BK159.out 1
                        have p160 : 0 ≤ (x7_1 : Int) := of_decide_eq_true (by first | (with_reducible assumption) | assumption)
                        have q160 : x7_1 < (t152.length : Int) := of_decide_eq_true (by first | (with_reducible assumption) | assumption)
                        obtain ⟨ad160, e160, hx160_0⟩ := Kd.at_int (Kd.R_reads' HO_160000.out).2.2 x7_1 p160 q160
                        cases e160
                        replace p160 := eq_true p160
                        replace q160 := eq_true q160
                        have p161 : 0 ≤ (x7_1 : Int) := of_decide_eq_true (by first | (with_reducible assumption) | assumption)
                        have q161 : x7_1 < (t152.length : Int) := of_decide_eq_true (by first | (with_reducible assumption) | assumption)
                        obtain ⟨ad161, e161, hx161_0⟩ := Kd.at_int (Kd.R_reads' HO_160000.out).2.2 x7_1 p161 q161
                        obtain rfl : ad160 = ad161 := (by injection e161)
                        replace p161 := eq_true p161
                        replace q161 := eq_true q161
                        have p162 : 0 ≤ (x7_1 : Int) := of_decide_eq_true (by first | (with_reducible assumption) | assumption)
                        have q162 : x7_1 < (t152.length : Int) := of_decide_eq_true (by first | (with_reducible assumption) | assumption)
                        obtain ⟨ad162, e162, hx162_0⟩ := Kd.at_int (Kd.R_reads' HO_160000.out).2.2 x7_1 p162 q162
                        obtain rfl : ad160 = ad162 := (by injection e162)
                        replace p162 := eq_true p162
                        replace q162 := eq_true q162
                        go_wp2
                        repeat (go_quiet (fail); try go_wp2)
                        go_roundg k1
                        case measure => have := HK1.out; omega
                        case rel => exact ⟨(wrap64 (x6_1 + 1)), (wrap64 (x7_1 + 1)), (by first | rfl | (simp; done) | (simp [*]; done)), (by first | rfl | (simp; done) | (simp [*]; done)), H', ⟨by have := HK1.out; omega⟩, ⟨by (with_reducible repeat (first | apply Kd.R_alloc | apply Kd.R_drewN | apply Kd.R_drew)); exact HO_160000.out⟩, ⟨by (with_reducible repeat (first | apply Kd.R_alloc | apply Kd.R_drewN | apply Kd.R_drew)); exact HO_160001.out⟩, ⟨by (with_reducible repeat (first | refine blk_drewN ?_ _ | refine blk_drew ?_ | refine blk_alloc ?_ _)); exact BK159.out⟩, ⟨by repeat (first | (with_reducible first | exact HB.out | apply below_alloc | apply pw_below_drewN | apply below_drew1 | refine below_set ?_ GE159.out) | exact HB.out)⟩⟩
                      · rw [if_neg c16] at H
                        have c16b0 : ((rd t152 x7_1) == x6_1) = false := beq_eq_false_iff_ne.mpr c16
                        have c16b1 : ((rd t152 x7_1) != x6_1) = true := bne_iff_ne.mpr c16
                        have H' := Aside0.mk H
                        clear H
                        have hcz18_0 : wr.cell? ⟨gb159, 0, none⟩ = some (.slice Ao9 t152.length co9) := (blk_cell BK159.out 0).trans rfl
                        have hcz18_1 : wr.cell? ⟨gb159, 1, none⟩ = some (.slice Ao11 t155.length co11) := (blk_cell BK159.out 1).trans rfl
                        have hfz18_0 := blk_frozen BK159.out 0
                        have hfz18_1 := blk_frozen BK159.out 1
                        have p160 : 0 ≤ (x7_1 : Int) := of_decide_eq_true (by first | (with_reducible assumption) | assumption)
                        have q160 : x7_1 < (t152.length : Int) := of_decide_eq_true (by first | (with_reducible assumption) | assumption)
                        obtain ⟨ad160, e160, hx160_0⟩ := Kd.at_int (Kd.R_reads' HO_160000.out).2.2 x7_1 p160 q160
                        cases e160
                        replace p160 := eq_true p160
                        replace q160 := eq_true q160
                        have p161 : 0 ≤ (x7_1 : Int) := of_decide_eq_true (by first | (with_reducible assumption) | assumption)
                        have q161 : x7_1 < (t152.length : Int) := of_decide_eq_true (by first | (with_reducible assumption) | assumption)
                        obtain ⟨ad161, e161, hx161_0⟩ := Kd.at_int (Kd.R_reads' HO_160000.out).2.2 x7_1 p161 q161
                        obtain rfl : ad160 = ad161 := (by injection e161)
                        replace p161 := eq_true p161
                        replace q161 := eq_true q161
                        have p162 : 0 ≤ (x7_1 : Int) := of_decide_eq_true (by first | (with_reducible assumption) | assumption)
                        have q162 : x7_1 < (t152.length : Int) := of_decide_eq_true (by first | (with_reducible assumption) | assumption)
                        obtain ⟨ad162, e162, hx162_0⟩ := Kd.at_int (Kd.R_reads' HO_160000.out).2.2 x7_1 p162 q162
                        obtain rfl : ad160 = ad162 := (by injection e162)
                        replace p162 := eq_true p162
                        replace q162 := eq_true q162
                        go_wp2
                        repeat (go_quiet (fail); try go_wp2)
                        go_roundg k1
                        case measure => have := HK1.out; omega
                        case rel => exact ⟨(x6_1), (wrap64 (x7_1 + 1)), (by first | rfl | (simp; done) | (simp [*]; done)), (by first | rfl | (simp; done) | (simp [*]; done)), H', ⟨by have := HK1.out; omega⟩, ⟨by (with_reducible repeat (first | apply Kd.R_alloc | apply Kd.R_drewN | apply Kd.R_drew)); exact HO_160000.out⟩, ⟨by (with_reducible repeat (first | apply Kd.R_alloc | apply Kd.R_drewN | apply Kd.R_drew)); exact HO_160001.out⟩, ⟨by (with_reducible repeat (first | refine blk_drewN ?_ _ | refine blk_drew ?_ | refine blk_alloc ?_ _)); exact BK159.out⟩, ⟨by repeat (first | (with_reducible first | exact HB.out | apply below_alloc | apply pw_below_drewN | apply below_drew1 | refine below_set ?_ GE159.out) | exact HB.out)⟩⟩
                · rw [if_neg c13] at H
                  exact absurd H (by simp)
              · rw [if_neg c12] at H
                have c12b0 : decide (x7_1 < (t152.length : Int)) = false := decide_eq_false c12
                clear c12
                have H' := Aside0.mk H
                clear H
                have hcz19_0 : wr.cell? ⟨gb159, 0, none⟩ = some (.slice Ao9 t152.length co9) := (blk_cell BK159.out 0).trans rfl
                have hcz19_1 : wr.cell? ⟨gb159, 1, none⟩ = some (.slice Ao11 t155.length co11) := (blk_cell BK159.out 1).trans rfl
                have hfz19_0 := blk_frozen BK159.out 0
                have hfz19_1 := blk_frozen BK159.out 1
                go_wp2
                repeat (go_quiet (fail); try go_wp2)
                go_loopg [8] k1 (fun kq v8 w' => ∃ (x8_2 : Int), v8 = .int .i64 x8_2 ∧ Aside0 (sobriquetlaw05_RangesSmall.l1 kq l0 (wrap64 ((t155.length : Int) / 256)) x6_1 x8_2 t152 t155 = some r) ∧ Aside0 (kq ≤ k1) ∧ Aside0 (Kd.R (Kd.int .i64) 3 w' w.heap.size (fun k_ => some k_ ≠ ((.slice Ao11 t155.length co11) : Value).ownBlock) (.slice Ao9 t152.length co9) t152) ∧ Aside0 (Kd.R (Kd.int .i64) 3 w' w.heap.size (fun k_ => some k_ ≠ ((.slice Ao9 t152.length co9) : Value).ownBlock) (.slice Ao11 t155.length co11) t155) ∧ Aside0 (w'.heap[gb159]? = some (.cells #[(.slice Ao9 t152.length co9), (.slice Ao11 t155.length co11)] 25 (0, 0))) ∧ Aside0 (Below w.heap.size w w'))
                case atStart => exact ⟨(0), (by first | rfl | (simp; done) | (simp [*]; done)), H', ⟨Nat.le_refl _⟩, ⟨by (with_reducible repeat (first | apply Kd.R_alloc | apply Kd.R_drewN | apply Kd.R_drew)); exact HO_160000.out⟩, ⟨by (with_reducible repeat (first | apply Kd.R_alloc | apply Kd.R_drewN | apply Kd.R_drew)); exact HO_160001.out⟩, ⟨by (with_reducible repeat (first | refine blk_drewN ?_ _ | refine blk_drew ?_ | refine blk_alloc ?_ _)); exact BK159.out⟩, ⟨by repeat (first | (with_reducible first | exact HB.out | apply below_alloc | apply pw_below_drewN | apply below_drew1 | refine below_set ?_ GE159.out) | exact HB.out)⟩⟩
                case round =>
                  clear H'
                  try clear c1
                  try clear p1
                  try clear q1
                  try clear hx1
                  try clear c2
                  try clear c2b0
                  try clear c2b1
                  try clear p2
                  try clear c3
                  try clear c4
                  try clear c4b0
                  try clear c4b1
                  try clear c5
                  try clear c5b0
                  try clear c5b1
                  try clear c6
                  try clear c6b0
                  try clear c6b1
                  try clear p6
                  try clear c12
                  try clear c12b0
                  try clear c13
                  try clear c13b0
                  try clear c14
                  try clear c14b0
                  try clear c15
                  try clear c15b0
                  try clear c16
                  try clear c16b0
                  try clear c16b1
                  try clear p16
                  try clear q16
                  try clear hx16
                  try clear hcz10_0
                  try clear hcz10_1
                  try clear hcz17_0
                  try clear hcz17_1
                  try clear hcz18_0
                  try clear hcz18_1
                  try clear hcz19_0
                  try clear hcz19_1
                  try clear hfz10_0
                  try clear hfz10_1
                  try clear hfz17_0
                  try clear hfz17_1
                  try clear hfz18_0
                  try clear hfz18_1
                  try clear hfz19_0
                  try clear hfz19_1
                  try clear hx160_0
                  try clear hx161_0
                  try clear hx162_0
                  try clear p160
                  try clear p161
                  try clear p162
                  try clear p2
                  try clear p6
                  try clear q160
                  try clear q161
                  try clear q162
                  obtain ⟨x8_2, rfl, HA, HK2, HO_160000, HO_160001, BK159, HB⟩ := hrel
                  cases gk with
                  | zero => exact absurd HA.out (by simp [sobriquetlaw05_RangesSmall.l1])
                  | succ k2 =>
                    have H := HA.out
                    clear HA
                    simp only [sobriquetlaw05_RangesSmall.l1] at H
                    by_cases c20 : x8_2 < (wrap64 ((t155.length : Int) / 256))
                    · rw [if_pos c20] at H
                      have c20b0 : decide (x8_2 < (wrap64 ((t155.length : Int) / 256))) = true := decide_eq_true c20
                      clear c20
                      have H' := Aside0.mk H
                      clear H
                      go_wp2
                      repeat (go_quiet (fail); try go_wp2)
                      go_loopg [9] k2 (fun kq v9 w' => ∃ (x9_3 : Int), v9 = .int .i64 x9_3 ∧ Aside0 (sobriquetlaw05_RangesSmall.l2 kq l0 (wrap64 ((t155.length : Int) / 256)) x6_1 x8_2 x9_3 t152 t155 = some r) ∧ Aside0 (kq ≤ k2) ∧ Aside0 (Kd.R (Kd.int .i64) 3 w' w.heap.size (fun k_ => some k_ ≠ ((.slice Ao11 t155.length co11) : Value).ownBlock) (.slice Ao9 t152.length co9) t152) ∧ Aside0 (Kd.R (Kd.int .i64) 3 w' w.heap.size (fun k_ => some k_ ≠ ((.slice Ao9 t152.length co9) : Value).ownBlock) (.slice Ao11 t155.length co11) t155) ∧ Aside0 (w'.heap[gb159]? = some (.cells #[(.slice Ao9 t152.length co9), (.slice Ao11 t155.length co11)] 25 (0, 0))) ∧ Aside0 (Below w.heap.size w w'))
                      case atStart => exact ⟨(0), (by first | rfl | (simp; done) | (simp [*]; done)), H', ⟨Nat.le_refl _⟩, ⟨by (with_reducible repeat (first | apply Kd.R_alloc | apply Kd.R_drewN | apply Kd.R_drew)); exact HO_160000.out⟩, ⟨by (with_reducible repeat (first | apply Kd.R_alloc | apply Kd.R_drewN | apply Kd.R_drew)); exact HO_160001.out⟩, ⟨by (with_reducible repeat (first | refine blk_drewN ?_ _ | refine blk_drew ?_ | refine blk_alloc ?_ _)); exact BK159.out⟩, ⟨by repeat (first | (with_reducible first | exact HB.out | apply below_alloc | apply pw_below_drewN | apply below_drew1 | refine below_set ?_ GE159.out) | exact HB.out)⟩⟩
                      case round =>
                        clear H'
                        try clear c1
                        try clear p1
                        try clear q1
                        try clear hx1
                        try clear c2
                        try clear c2b0
                        try clear c2b1
                        try clear p2
                        try clear c3
                        try clear c4
                        try clear c4b0
                        try clear c4b1
                        try clear c5
                        try clear c5b0
                        try clear c5b1
                        try clear c6
                        try clear c6b0
                        try clear c6b1
                        try clear p6
                        try clear c12
                        try clear c12b0
                        try clear c13
                        try clear c13b0
                        try clear c14
                        try clear c14b0
                        try clear c15
                        try clear c15b0
                        try clear c16
                        try clear c16b0
                        try clear c16b1
                        try clear p16
                        try clear q16
                        try clear hx16
                        try clear c20
                        try clear c20b0
                        try clear hcz10_0
                        try clear hcz10_1
                        try clear hcz17_0
                        try clear hcz17_1
                        try clear hcz18_0
                        try clear hcz18_1
                        try clear hcz19_0
                        try clear hcz19_1
                        try clear hfz10_0
                        try clear hfz10_1
                        try clear hfz17_0
                        try clear hfz17_1
                        try clear hfz18_0
                        try clear hfz18_1
                        try clear hfz19_0
                        try clear hfz19_1
                        try clear hx160_0
                        try clear hx161_0
                        try clear hx162_0
                        try clear p1
                        try clear p16
                        try clear p160
                        try clear p161
                        try clear p162
                        try clear p2
                        try clear p6
                        try clear q1
                        try clear q16
                        try clear q160
                        try clear q161
                        try clear q162
                        obtain ⟨x9_3, rfl, HA, HK3, HO_160000, HO_160001, BK159, HB⟩ := hrel
                        cases gk with
                        | zero => exact absurd HA.out (by simp [sobriquetlaw05_RangesSmall.l2])
                        | succ k3 =>
                          have H := HA.out
                          clear HA
                          simp only [sobriquetlaw05_RangesSmall.l2] at H
                          by_cases c21 : x9_3 < x8_2
                          · rw [if_pos c21] at H
                            have c21b0 : decide (x9_3 < x8_2) = true := decide_eq_true c21
                            clear c21
                            obtain ⟨ji22, hji22⟩ : ∃ j_ : Int, (wrap64 (256 * x8_2)) = j_ := ⟨_, rfl⟩
                            replace H : (if 0 ≤ (ji22) then (if (ji22) ≤ (wrap64 ((ji22) + 256)) then (if (wrap64 ((ji22) + 256)) ≤ (t155.length : Int) then (if 0 ≤ (wrap64 (256 * x9_3)) then (if (wrap64 (256 * x9_3)) ≤ (wrap64 ((wrap64 (256 * x9_3)) + 256)) then (if (wrap64 ((wrap64 (256 * x9_3)) + 256)) ≤ (t155.length : Int) then ((sobriquetkeep_Ints.f k3 ((t155.take ((wrap64 ((ji22) + 256)) : Int).toNat).drop ((ji22) : Int).toNat) ((t155.take ((wrap64 ((wrap64 (256 * x9_3)) + 256)) : Int).toNat).drop ((wrap64 (256 * x9_3)) : Int).toNat)).bind fun t171 => (if t171 = true then (some false) else (sobriquetlaw05_RangesSmall.l2 k3 l0 (wrap64 ((t155.length : Int) / 256)) x6_1 x8_2 (wrap64 (x9_3 + 1)) t152 t155))) else (none)) else (none)) else (none)) else (none)) else (none)) else (none)) = some r := by first | (rw [hji22] at H; exact H) | (simp only [hji22] at H ⊢; exact H)
                            have hji22w : (IntKind.i64.wrap (256 * x8_2)) = ji22 := (i64_w _).trans hji22
                            by_cases c23 : 0 ≤ (ji22)
                            · rw [if_pos c23] at H
                              have c23b0 := eq_true c23
                              have c23b1 : decide (0 ≤ (ji22)) = true := decide_eq_true c23
                              clear c23
                              by_cases c24 : (ji22) ≤ (wrap64 ((ji22) + 256))
                              · rw [if_pos c24] at H
                                have c24b0 := eq_true c24
                                have c24b1 : decide ((ji22) ≤ (wrap64 ((ji22) + 256))) = true := decide_eq_true c24
                                by_cases c25 : (wrap64 ((ji22) + 256)) ≤ (t155.length : Int)
                                · rw [if_pos c25] at H
                                  have c25b0 := eq_true c25
                                  have c25b1 : decide ((wrap64 ((ji22) + 256)) ≤ (t155.length : Int)) = true := decide_eq_true c25
                                  obtain ⟨y163, hy163⟩ : ∃ y_ : List Int, y_ = ((t155.take ((wrap64 ((ji22) + 256)) : Int).toNat).drop ((ji22) : Int).toNat) := ⟨_, rfl⟩
                                  replace H : (if 0 ≤ (wrap64 (256 * x9_3)) then (if (wrap64 (256 * x9_3)) ≤ (wrap64 ((wrap64 (256 * x9_3)) + 256)) then (if (wrap64 ((wrap64 (256 * x9_3)) + 256)) ≤ (t155.length : Int) then ((sobriquetkeep_Ints.f k3 y163 ((t155.take ((wrap64 ((wrap64 (256 * x9_3)) + 256)) : Int).toNat).drop ((wrap64 (256 * x9_3)) : Int).toNat)).bind fun t171 => (if t171 = true then (some false) else (sobriquetlaw05_RangesSmall.l2 k3 l0 (wrap64 ((t155.length : Int) / 256)) x6_1 x8_2 (wrap64 (x9_3 + 1)) t152 t155))) else (none)) else (none)) else (none)) = some r := by first | (rw [hy163]; with_reducible exact H) | (have H2_ := (Option.bind_some _ _).symm.trans H; rw [hy163]; with_reducible exact H2_) | (have H2_ := (Option.bind_some _ _).symm.trans H; with_reducible exact H2_) | with_reducible exact H | (rw [hy163]; exact H) | exact H
                                  have Ny163 := Aside0.mk hy163
                                  clear hy163
                                  obtain ⟨ji26, hji26⟩ : ∃ j_ : Int, (wrap64 (256 * x9_3)) = j_ := ⟨_, rfl⟩
                                  replace H : (if 0 ≤ (ji26) then (if (ji26) ≤ (wrap64 ((ji26) + 256)) then (if (wrap64 ((ji26) + 256)) ≤ (t155.length : Int) then ((sobriquetkeep_Ints.f k3 y163 ((t155.take ((wrap64 ((ji26) + 256)) : Int).toNat).drop ((ji26) : Int).toNat)).bind fun t171 => (if t171 = true then (some false) else (sobriquetlaw05_RangesSmall.l2 k3 l0 (wrap64 ((t155.length : Int) / 256)) x6_1 x8_2 (wrap64 (x9_3 + 1)) t152 t155))) else (none)) else (none)) else (none)) = some r := by first | (rw [hji26] at H; exact H) | (simp only [hji26] at H ⊢; exact H)
                                  have hji26w : (IntKind.i64.wrap (256 * x9_3)) = ji26 := (i64_w _).trans hji26
                                  by_cases c27 : 0 ≤ (ji26)
                                  · rw [if_pos c27] at H
                                    have c27b0 := eq_true c27
                                    have c27b1 : decide (0 ≤ (ji26)) = true := decide_eq_true c27
                                    clear c27
                                    by_cases c28 : (ji26) ≤ (wrap64 ((ji26) + 256))
                                    · rw [if_pos c28] at H
                                      have c28b0 := eq_true c28
                                      have c28b1 : decide ((ji26) ≤ (wrap64 ((ji26) + 256))) = true := decide_eq_true c28
                                      by_cases c29 : (wrap64 ((ji26) + 256)) ≤ (t155.length : Int)
                                      · rw [if_pos c29] at H
                                        have c29b0 := eq_true c29
                                        have c29b1 : decide ((wrap64 ((ji26) + 256)) ≤ (t155.length : Int)) = true := decide_eq_true c29
                                        obtain ⟨y167, hy167⟩ : ∃ y_ : List Int, y_ = ((t155.take ((wrap64 ((ji26) + 256)) : Int).toNat).drop ((ji26) : Int).toNat) := ⟨_, rfl⟩
                                        replace H : ((sobriquetkeep_Ints.f k3 y163 y167).bind fun t171 => (if t171 = true then (some false) else (sobriquetlaw05_RangesSmall.l2 k3 l0 (wrap64 ((t155.length : Int) / 256)) x6_1 x8_2 (wrap64 (x9_3 + 1)) t152 t155))) = some r := by first | (rw [hy167]; with_reducible exact H) | (have H2_ := (Option.bind_some _ _).symm.trans H; rw [hy167]; with_reducible exact H2_) | (have H2_ := (Option.bind_some _ _).symm.trans H; with_reducible exact H2_) | with_reducible exact H | (rw [hy167]; exact H) | exact H
                                        have Ny167 := Aside0.mk hy167
                                        clear hy167
                                        replace H := Option.bind_eq_some_iff.mp H
                                        obtain ⟨t171, A300, H⟩ := H
                                        replace H : (if t171 = true then (some false) else (sobriquetlaw05_RangesSmall.l2 k3 l0 (wrap64 ((t155.length : Int) / 256)) x6_1 x8_2 (wrap64 (x9_3 + 1)) t152 t155)) = some r := H
                                        have A30 := Aside0.mk A300
                                        clear A300
                                        by_cases c31 : t171 = true
                                        · subst c31
                                          have H1 : (some false) = some r := by rw [if_pos rfl] at H; exact H
                                          clear H
                                          have H := H1
                                          clear H1
                                          exact absurd ((Option.some.inj H).trans hrt.out) (by decide)
                                        · replace c31 := Bool.eq_false_iff.mpr c31
                                          subst c31
                                          have H1 : (sobriquetlaw05_RangesSmall.l2 k3 l0 (wrap64 ((t155.length : Int) / 256)) x6_1 x8_2 (wrap64 (x9_3 + 1)) t152 t155) = some r := by rw [if_neg (show ¬ (false = true) by decide)] at H; exact H
                                          clear H
                                          have H := H1
                                          clear H1
                                          have H' := Aside0.mk H
                                          clear H
                                          have hcz32_0 : wr.cell? ⟨gb159, 0, none⟩ = some (.slice Ao9 t152.length co9) := (blk_cell BK159.out 0).trans rfl
                                          have hcz32_1 : wr.cell? ⟨gb159, 1, none⟩ = some (.slice Ao11 t155.length co11) := (blk_cell BK159.out 1).trans rfl
                                          have hfz32_0 := blk_frozen BK159.out 0
                                          have hfz32_1 := blk_frozen BK159.out 1
                                          have q33 : ((wrap64 ((ji22) + 256)) : Int) ≤ ((t155.length : Int) : Int) := of_decide_eq_true (by first | (with_reducible assumption) | assumption)
                                          obtain ⟨i033, hi033, _, hsz33, _⟩ := info_parts info3
                                          have hroom33 : t155.length ≤ co11 := (Kd.R_reads' HO_160001.out).2.1
                                          have hC33 : Kd.C (Kd.int .i64) _ Ao11 t155.length t155 := (Kd.R_reads' HO_160001.out).2.2
                                          have ql33 : ((ji22) : Int) ≤ ((wrap64 ((ji22) + 256)) : Int) := of_decide_eq_true (by first | (with_reducible assumption) | assumption)
                                          have q033 : (0 : Int) ≤ ((ji22) : Int) := of_decide_eq_true (by first | (with_reducible assumption) | assumption)
                                          have hcut33 := cut_mid (P := Try.prog) 23 3 .i64 .i64 Try.underlying23 hi033 1 hsz33 Ao11 t155.length co11 (ji22) (wrap64 ((ji22) + 256)) q033 ql33 q33 hroom33
                                          have hr33 := Kd.C_mid (lo := ((ji22) : Int).toNat) (hi := ((wrap64 ((ji22) + 256)) : Int).toNat) (c := co11) hC33 (by omega) (by omega) hroom33
                                          obtain ⟨A33, hA33⟩ : ∃ A1, A1 = (if co11 = ((ji22) : Int).toNat then Ao11 else (Ao11 : Option Addr).map (·.add (((ji22) : Int).toNat * 1))) := ⟨_, rfl⟩
                                          obtain ⟨c33, hc33⟩ : ∃ c1, c1 = co11 - ((ji22) : Int).toNat := ⟨_, rfl⟩
                                          have hy33 : y163.length = ((wrap64 ((ji22) + 256)) : Int).toNat - ((ji22) : Int).toNat := (by rw [Ny163.out, List.length_drop, List.length_take] <;> omega)
                                          rw [show ((t155).take ((wrap64 ((ji22) + 256)) : Int).toNat).drop ((ji22) : Int).toNat = y163 from Ny163.out.symm] at hr33
                                          replace hr33 : Kd.C (Kd.int .i64) _ A33 y163.length y163 := (by rw [hA33]; exact hr33)
                                          rw [← hy33, ← hA33, ← hc33] at hcut33
                                          have HR166 := Aside0.mk hr33
                                          have HC166 := Aside0.mk (show y163.length ≤ c33 from by rw [hy33, hc33]; exact Nat.sub_le_sub_right (Nat.le_trans (by omega) hroom33) _)
                                          clear hr33 hC33 hroom33 hi033 hsz33 hc33
                                          have KY33 := Aside0.mk hy33
                                          have KA33 := Aside0.mk hA33
                                          clear hy33 hA33
                                          have KL33 := Aside0.mk (show ((wrap64 ((ji22) + 256)) : Int).toNat ≤ t155.length from by omega)
                                          have KM33 := Aside0.mk (show ((ji22) : Int).toNat ≤ ((wrap64 ((ji22) + 256)) : Int).toNat from by omega)
                                          replace q33 := eq_true q33
                                          have q34 : ((wrap64 ((ji26) + 256)) : Int) ≤ ((t155.length : Int) : Int) := of_decide_eq_true (by first | (with_reducible assumption) | assumption)
                                          obtain ⟨i034, hi034, _, hsz34, _⟩ := info_parts info3
                                          have hroom34 : t155.length ≤ co11 := (Kd.R_reads' HO_160001.out).2.1
                                          have hC34 : Kd.C (Kd.int .i64) _ Ao11 t155.length t155 := (Kd.R_reads' HO_160001.out).2.2
                                          have ql34 : ((ji26) : Int) ≤ ((wrap64 ((ji26) + 256)) : Int) := of_decide_eq_true (by first | (with_reducible assumption) | assumption)
                                          have q034 : (0 : Int) ≤ ((ji26) : Int) := of_decide_eq_true (by first | (with_reducible assumption) | assumption)
                                          have hcut34 := cut_mid (P := Try.prog) 23 3 .i64 .i64 Try.underlying23 hi034 1 hsz34 Ao11 t155.length co11 (ji26) (wrap64 ((ji26) + 256)) q034 ql34 q34 hroom34
                                          have hr34 := Kd.C_mid (lo := ((ji26) : Int).toNat) (hi := ((wrap64 ((ji26) + 256)) : Int).toNat) (c := co11) hC34 (by omega) (by omega) hroom34
                                          obtain ⟨A34, hA34⟩ : ∃ A1, A1 = (if co11 = ((ji26) : Int).toNat then Ao11 else (Ao11 : Option Addr).map (·.add (((ji26) : Int).toNat * 1))) := ⟨_, rfl⟩
                                          obtain ⟨c34, hc34⟩ : ∃ c1, c1 = co11 - ((ji26) : Int).toNat := ⟨_, rfl⟩
                                          have hy34 : y167.length = ((wrap64 ((ji26) + 256)) : Int).toNat - ((ji26) : Int).toNat := (by rw [Ny167.out, List.length_drop, List.length_take] <;> omega)
                                          rw [show ((t155).take ((wrap64 ((ji26) + 256)) : Int).toNat).drop ((ji26) : Int).toNat = y167 from Ny167.out.symm] at hr34
                                          replace hr34 : Kd.C (Kd.int .i64) _ A34 y167.length y167 := (by rw [hA34]; exact hr34)
                                          rw [← hy34, ← hA34, ← hc34] at hcut34
                                          have HR170 := Aside0.mk hr34
                                          have HC170 := Aside0.mk (show y167.length ≤ c34 from by rw [hy34, hc34]; exact Nat.sub_le_sub_right (Nat.le_trans (by omega) hroom34) _)
                                          clear hr34 hC34 hroom34 hi034 hsz34 hc34
                                          have KY34 := Aside0.mk hy34
                                          have KA34 := Aside0.mk hA34
                                          clear hy34 hA34
                                          have KL34 := Aside0.mk (show ((wrap64 ((ji26) + 256)) : Int).toNat ≤ t155.length from by omega)
                                          have KM34 := Aside0.mk (show ((ji26) : Int).toNat ≤ ((wrap64 ((ji26) + 256)) : Int).toNat from by omega)
                                          replace q34 := eq_true q34
                                          go_wp2_with (first | (go_at_call 9; (with_reducible refine (sobriquetkeep_Ints.calls k3 _ _ y163 _ _ y167 false _ ?side1 ?side2 ?side3 ?side4 A30.out).mono ?_); (case side1 => repeat (first | exact (by repeat (first | (with_reducible exact HR166.out) | (with_reducible refine Kd.C_alloc ?_ _) | (with_reducible refine Kd.C_drewN ?_ _) | (with_reducible refine Kd.C_drew ?_) | exact HR166.out)) | (with_reducible refine Kd.C_alloc ?_ _) | (with_reducible refine Kd.C_drewN ?_ _) | (with_reducible refine Kd.C_drew ?_))); (case side2 => exact HC166.out); (case side3 => repeat (first | exact (by repeat (first | (with_reducible exact HR170.out) | (with_reducible refine Kd.C_alloc ?_ _) | (with_reducible refine Kd.C_drewN ?_ _) | (with_reducible refine Kd.C_drew ?_) | exact HR170.out)) | (with_reducible refine Kd.C_alloc ?_ _) | (with_reducible refine Kd.C_drewN ?_ _) | (with_reducible refine Kd.C_drew ?_))); (case side4 => exact HC170.out); rintro e w' ⟨rfl, ⟨nd, rfl⟩⟩; (try first | exact ⟨rfl, _, World.drewN_drewN _ _ _⟩ | exact ⟨rfl, _, Eq.trans (World.drewN_drewN _ _ _) (congrArg (World.drewN _) (Nat.add_assoc _ _ _))⟩)))
                                          repeat (go_quiet (first | (go_at_call 9; (with_reducible refine (sobriquetkeep_Ints.calls k3 _ _ y163 _ _ y167 false _ ?side1 ?side2 ?side3 ?side4 A30.out).mono ?_); (case side1 => repeat (first | exact (by repeat (first | (with_reducible exact HR166.out) | (with_reducible refine Kd.C_alloc ?_ _) | (with_reducible refine Kd.C_drewN ?_ _) | (with_reducible refine Kd.C_drew ?_) | exact HR166.out)) | (with_reducible refine Kd.C_alloc ?_ _) | (with_reducible refine Kd.C_drewN ?_ _) | (with_reducible refine Kd.C_drew ?_))); (case side2 => exact HC166.out); (case side3 => repeat (first | exact (by repeat (first | (with_reducible exact HR170.out) | (with_reducible refine Kd.C_alloc ?_ _) | (with_reducible refine Kd.C_drewN ?_ _) | (with_reducible refine Kd.C_drew ?_) | exact HR170.out)) | (with_reducible refine Kd.C_alloc ?_ _) | (with_reducible refine Kd.C_drewN ?_ _) | (with_reducible refine Kd.C_drew ?_))); (case side4 => exact HC170.out); rintro e w' ⟨rfl, ⟨nd, rfl⟩⟩; (try first | exact ⟨rfl, _, World.drewN_drewN _ _ _⟩ | exact ⟨rfl, _, Eq.trans (World.drewN_drewN _ _ _) (congrArg (World.drewN _) (Nat.add_assoc _ _ _))⟩))); try go_wp2_with (first | (go_at_call 9; (with_reducible refine (sobriquetkeep_Ints.calls k3 _ _ y163 _ _ y167 false _ ?side1 ?side2 ?side3 ?side4 A30.out).mono ?_); (case side1 => repeat (first | exact (by repeat (first | (with_reducible exact HR166.out) | (with_reducible refine Kd.C_alloc ?_ _) | (with_reducible refine Kd.C_drewN ?_ _) | (with_reducible refine Kd.C_drew ?_) | exact HR166.out)) | (with_reducible refine Kd.C_alloc ?_ _) | (with_reducible refine Kd.C_drewN ?_ _) | (with_reducible refine Kd.C_drew ?_))); (case side2 => exact HC166.out); (case side3 => repeat (first | exact (by repeat (first | (with_reducible exact HR170.out) | (with_reducible refine Kd.C_alloc ?_ _) | (with_reducible refine Kd.C_drewN ?_ _) | (with_reducible refine Kd.C_drew ?_) | exact HR170.out)) | (with_reducible refine Kd.C_alloc ?_ _) | (with_reducible refine Kd.C_drewN ?_ _) | (with_reducible refine Kd.C_drew ?_))); (case side4 => exact HC170.out); rintro e w' ⟨rfl, ⟨nd, rfl⟩⟩; (try first | exact ⟨rfl, _, World.drewN_drewN _ _ _⟩ | exact ⟨rfl, _, Eq.trans (World.drewN_drewN _ _ _) (congrArg (World.drewN _) (Nat.add_assoc _ _ _))⟩))))
                                          go_roundg k3
                                          case measure => have := HK1.out; have := HK2.out; have := HK3.out; omega
                                          case rel => exact ⟨(wrap64 (x9_3 + 1)), (by first | rfl | (simp; done) | (simp [*]; done)), H', ⟨by have := HK1.out; have := HK2.out; have := HK3.out; omega⟩, ⟨by (with_reducible repeat (first | apply Kd.R_alloc | apply Kd.R_drewN | apply Kd.R_drew)); exact HO_160000.out⟩, ⟨by (with_reducible repeat (first | apply Kd.R_alloc | apply Kd.R_drewN | apply Kd.R_drew)); exact HO_160001.out⟩, ⟨by (with_reducible repeat (first | refine blk_drewN ?_ _ | refine blk_drew ?_ | refine blk_alloc ?_ _)); exact BK159.out⟩, ⟨by repeat (first | (with_reducible first | exact HB.out | apply below_alloc | apply pw_below_drewN | apply below_drew1 | refine below_set ?_ GE159.out) | exact HB.out)⟩⟩
                                      · rw [if_neg c29] at H
                                        exact absurd H (by simp)
                                    · rw [if_neg c28] at H
                                      exact absurd H (by simp)
                                  · rw [if_neg c27] at H
                                    exact absurd H (by simp)
                                · rw [if_neg c25] at H
                                  exact absurd H (by simp)
                              · rw [if_neg c24] at H
                                exact absurd H (by simp)
                            · rw [if_neg c23] at H
                              exact absurd H (by simp)
                          · rw [if_neg c21] at H
                            have c21b0 : decide (x9_3 < x8_2) = false := decide_eq_false c21
                            clear c21
                            have H' := Aside0.mk H
                            clear H
                            go_wp2
                            repeat (go_quiet (fail); try go_wp2)
                            go_roundg k3
                            case measure => have := HK1.out; have := HK2.out; have := HK3.out; omega
                            case rel => exact ⟨(wrap64 (x8_2 + 1)), (by first | rfl | (simp; done) | (simp [*]; done)), H', ⟨by have := HK1.out; have := HK2.out; have := HK3.out; omega⟩, ⟨by (with_reducible repeat (first | apply Kd.R_alloc | apply Kd.R_drewN | apply Kd.R_drew)); exact HO_160000.out⟩, ⟨by (with_reducible repeat (first | apply Kd.R_alloc | apply Kd.R_drewN | apply Kd.R_drew)); exact HO_160001.out⟩, ⟨by (with_reducible repeat (first | refine blk_drewN ?_ _ | refine blk_drew ?_ | refine blk_alloc ?_ _)); exact BK159.out⟩, ⟨by repeat (first | (with_reducible first | exact HB.out | apply below_alloc | apply pw_below_drewN | apply below_drew1 | refine below_set ?_ GE159.out) | exact HB.out)⟩⟩
                    · rw [if_neg c20] at H
                      have c20b0 : decide (x8_2 < (wrap64 ((t155.length : Int) / 256))) = false := decide_eq_false c20
                      clear c20
                      by_cases c35 : x6_1 = (wrap64 ((t155.length : Int) / 256))
                      · rw [if_pos c35] at H
                        have c35b0 : (x6_1 == (wrap64 ((t155.length : Int) / 256))) = true := beq_iff_eq.mpr c35
                        have c35b1 : (x6_1 != (wrap64 ((t155.length : Int) / 256))) = false := bne_eq_false_iff_eq.mpr c35
                        clear c35
                        by_cases c36 : (wrap64 ((t155.length : Int) / 256)) ≤ (wrap64 ((wrap64 (3 * (l0.length : Int))) + 1))
                        · rw [if_pos c36] at H
                          have c36b0 : decide ((wrap64 ((t155.length : Int) / 256)) ≤ (wrap64 ((wrap64 (3 * (l0.length : Int))) + 1))) = true := decide_eq_true c36
                          clear c36
                          replace H := Option.bind_eq_some_iff.mp H
                          obtain ⟨t172, A370, H⟩ := H
                          replace H : (some t172) = some r := H
                          have A37 := Aside0.mk A370
                          clear A370
                          obtain rfl := Option.some.inj H
                          go_wp2_with (first | (go_at_call 8; (with_reducible refine (sobriquetlaw05_wakes.calls k2  t172 _ A37.out (by first | exact hrt.out | rfl)).mono ?_); rintro e w38 ⟨rfl, hb⟩; have n0_ := Aside0.mk (Kd.R_below (by (with_reducible repeat (first | apply Kd.R_alloc | apply Kd.R_drewN | apply Kd.R_drew)); exact HO_160000.out) hb); have n1_ := Aside0.mk (Kd.R_below (by (with_reducible repeat (first | apply Kd.R_alloc | apply Kd.R_drewN | apply Kd.R_drew)); exact HO_160001.out) hb); have n2_ := Aside0.mk (blk_below (g := gb159) (o := .cells #[.slice Ao9 t152.length co9, .slice Ao11 t155.length co11] 25 (0, 0)) (by (with_reducible repeat (first | refine blk_drewN ?_ _ | refine blk_drew ?_ | refine blk_alloc ?_ _)); exact BK159.out) hb); have n3_ := Aside0.mk (below_step (by repeat (first | (with_reducible first | exact HB.out | apply below_alloc | apply pw_below_drewN | apply below_drew1 | refine below_set ?_ GE159.out) | exact HB.out)) hb); clear HO_160000; clear HO_160001; clear BK159; clear HB; have HO_160000 := n0_; have HO_160001 := n1_; have BK159 := n2_; have HB := n3_; clear n0_ n1_ n2_ n3_; (try clear hb); (try clear hb2); (try clear hk); (try clear hi)))
                          repeat (go_quiet (first | (go_at_call 8; (with_reducible refine (sobriquetlaw05_wakes.calls k2  t172 _ A37.out (by first | exact hrt.out | rfl)).mono ?_); rintro e w38 ⟨rfl, hb⟩; have n0_ := Aside0.mk (Kd.R_below (by (with_reducible repeat (first | apply Kd.R_alloc | apply Kd.R_drewN | apply Kd.R_drew)); exact HO_160000.out) hb); have n1_ := Aside0.mk (Kd.R_below (by (with_reducible repeat (first | apply Kd.R_alloc | apply Kd.R_drewN | apply Kd.R_drew)); exact HO_160001.out) hb); have n2_ := Aside0.mk (blk_below (g := gb159) (o := .cells #[.slice Ao9 t152.length co9, .slice Ao11 t155.length co11] 25 (0, 0)) (by (with_reducible repeat (first | refine blk_drewN ?_ _ | refine blk_drew ?_ | refine blk_alloc ?_ _)); exact BK159.out) hb); have n3_ := Aside0.mk (below_step (by repeat (first | (with_reducible first | exact HB.out | apply below_alloc | apply pw_below_drewN | apply below_drew1 | refine below_set ?_ GE159.out) | exact HB.out)) hb); clear HO_160000; clear HO_160001; clear BK159; clear HB; have HO_160000 := n0_; have HO_160001 := n1_; have BK159 := n2_; have HB := n3_; clear n0_ n1_ n2_ n3_; (try clear hb); (try clear hb2); (try clear hk); (try clear hi))); try go_wp2_with (first | (go_at_call 8; (with_reducible refine (sobriquetlaw05_wakes.calls k2  t172 _ A37.out (by first | exact hrt.out | rfl)).mono ?_); rintro e w38 ⟨rfl, hb⟩; have n0_ := Aside0.mk (Kd.R_below (by (with_reducible repeat (first | apply Kd.R_alloc | apply Kd.R_drewN | apply Kd.R_drew)); exact HO_160000.out) hb); have n1_ := Aside0.mk (Kd.R_below (by (with_reducible repeat (first | apply Kd.R_alloc | apply Kd.R_drewN | apply Kd.R_drew)); exact HO_160001.out) hb); have n2_ := Aside0.mk (blk_below (g := gb159) (o := .cells #[.slice Ao9 t152.length co9, .slice Ao11 t155.length co11] 25 (0, 0)) (by (with_reducible repeat (first | refine blk_drewN ?_ _ | refine blk_drew ?_ | refine blk_alloc ?_ _)); exact BK159.out) hb); have n3_ := Aside0.mk (below_step (by repeat (first | (with_reducible first | exact HB.out | apply below_alloc | apply pw_below_drewN | apply below_drew1 | refine below_set ?_ GE159.out) | exact HB.out)) hb); clear HO_160000; clear HO_160001; clear BK159; clear HB; have HO_160000 := n0_; have HO_160001 := n1_; have BK159 := n2_; have HB := n3_; clear n0_ n1_ n2_ n3_; (try clear hb); (try clear hb2); (try clear hk); (try clear hi))))
                          go_ret
                          exact ⟨by first | rfl | (simp [errW_none, errW_some] <;> rfl) | (simp [*, errW_none, errW_some] <;> rfl), by repeat (first | (with_reducible first | exact HB.out | apply below_alloc | apply pw_below_drewN | apply below_drew1 | refine below_set ?_ GE159.out) | exact HB.out)⟩
                        · rw [if_neg c36] at H
                          have c36b0 : decide ((wrap64 ((t155.length : Int) / 256)) ≤ (wrap64 ((wrap64 (3 * (l0.length : Int))) + 1))) = false := decide_eq_false c36
                          clear c36
                          exact absurd ((Option.some.inj H).trans hrt.out) (by decide)
                      · rw [if_neg c35] at H
                        have c35b0 : (x6_1 == (wrap64 ((t155.length : Int) / 256))) = false := beq_eq_false_iff_ne.mpr c35
                        have c35b1 : (x6_1 != (wrap64 ((t155.length : Int) / 256))) = true := bne_iff_ne.mpr c35
                        exact absurd ((Option.some.inj H).trans hrt.out) (by decide)
        · rw [if_neg c6] at H
          have c6b0 : ((t155.length : Int) == (wrap64 (256 * (wrap64 ((t155.length : Int) / 256))))) = false := beq_eq_false_iff_ne.mpr c6
          have c6b1 : ((t155.length : Int) != (wrap64 (256 * (wrap64 ((t155.length : Int) / 256))))) = true := bne_iff_ne.mpr c6
          exact absurd ((Option.some.inj H).trans hrt.out) (by decide)
      · rw [if_neg c5] at H
        have c5b0 : ((t152.length : Int) == 4352) = false := beq_eq_false_iff_ne.mpr c5
        have c5b1 : ((t152.length : Int) != 4352) = true := bne_iff_ne.mpr c5
        exact absurd ((Option.some.inj H).trans hrt.out) (by decide)
    · rw [if_neg c4] at H
      have c4b0 : (t158 == 0) = false := beq_eq_false_iff_ne.mpr c4
      have c4b1 : (t158 != 0) = true := bne_iff_ne.mpr c4
      by_cases c39 : t158 = 1
      · rw [if_pos c39] at H
        have c39b0 : (t158 == 1) = true := beq_iff_eq.mpr c39
        have c39b1 : (t158 != 1) = false := bne_eq_false_iff_eq.mpr c39
        clear c39
        replace H := Option.bind_eq_some_iff.mp H
        obtain ⟨t173, A400, H⟩ := H
        replace H : (some t173) = some r := H
        have A40 := Aside0.mk A400
        clear A400
        obtain rfl := Option.some.inj H
        go_enter Try.func3, Try.ntmps3
        go_wp2_with (first | (go_at_call 7; (with_reducible refine (ranges_Pack.calls k _ _ l0 t152 t155 t158 _ ?side1 ?side2 A3.out).mono ?_); (case side1 => repeat (first | exact HR0.out | (with_reducible refine Kd.C_alloc ?_ _) | (with_reducible refine Kd.C_drewN ?_ _) | (with_reducible refine Kd.C_drew ?_))); (case side2 => exact HC0.out); rintro e w41 ⟨v153, v156, rfl, ho0, ho1, hb⟩; have n0_ := Aside0.mk (Kd.R_lower ho0 (below_size (by repeat (first | (with_reducible first | exact HB.out | apply below_alloc | apply pw_below_drewN | apply below_drew1) | exact HB.out)))); have n1_ := Aside0.mk (Kd.R_lower ho1 (below_size (by repeat (first | (with_reducible first | exact HB.out | apply below_alloc | apply pw_below_drewN | apply below_drew1) | exact HB.out)))); have n2_ := Aside0.mk (below_step (by repeat (first | (with_reducible first | exact HB.out | apply below_alloc | apply pw_below_drewN | apply below_drew1) | exact HB.out)) hb); clear HB; have HO154 := n0_; have HO157 := n1_; have HB := n2_; clear n0_ n1_ n2_; (try clear hb); (try clear hb2); (try clear hk); (try clear hi); (try clear ho0); (try clear ho1)) | ((with_reducible refine gate_dst (N := 3) rfl ?_); (try (refine gate_guard (by rfl) ?_; dsimp only)); refine box_event ?hg (N := 3) ?hd (cs := #[.slice none 0 0, .slice none 0 0]) (t := 25) ?hr ?_; (case hd => rfl); (case hg => rfl); (case hr => first | (go_simp; done) | (go_simp; rfl)); intro gb159 hg w42 hbox hb; have n0_ := Aside0.mk (Kd.R_below (by (with_reducible repeat (first | apply Kd.R_alloc | apply Kd.R_drewN | apply Kd.R_drew)); exact HO154.out) hb); have n1_ := Aside0.mk (Kd.R_below (by (with_reducible repeat (first | apply Kd.R_alloc | apply Kd.R_drewN | apply Kd.R_drew)); exact HO157.out) hb); have n2_ := Aside0.mk (below_step (by repeat (first | (with_reducible first | exact HB.out | apply below_alloc | apply pw_below_drewN | apply below_drew1) | exact HB.out)) hb); have n3_ := Aside0.mk (hbox); have n4_ := Aside0.mk ((by rw [hg]; exact (below_size (by repeat (first | (with_reducible first | exact HB.out | apply below_alloc | apply pw_below_drewN | apply below_drew1) | exact HB.out))) : w.heap.size ≤ gb159)); have n5_ := Aside0.mk ((by rw [hg]; exact (below_size (by repeat (first | (with_reducible first | exact HB.out | apply below_alloc | apply pw_below_drewN | apply below_drew1) | exact HB.out))) : w.heap.size ≤ gb159)); clear HO154; clear HO157; clear HB; have HO154 := n0_; have HO157 := n1_; have HB := n2_; have BK159 := n3_; have GW159 := n4_; have GE159 := n5_; clear n0_ n1_ n2_ n3_ n4_ n5_; clear hb hbox hg; obtain ⟨Ao43, co43, eo43⟩ := Kd.R_slice HO154.out; subst eo43; have hcz44_0 : w42.cell? ⟨gb159, 0, none⟩ = some (.slice none 0 0) := (blk_cell BK159.out 0).trans rfl; have hcz44_1 : w42.cell? ⟨gb159, 1, none⟩ = some (.slice none 0 0) := (blk_cell BK159.out 1).trans rfl; have hfz44_0 := blk_frozen BK159.out 0; have hfz44_1 := blk_frozen BK159.out 1; obtain ⟨Ao45, co45, eo45⟩ := Kd.R_slice HO157.out; subst eo45) | (go_at_call 8; (with_reducible refine (sobriquetlaw05_wakes.calls k  t173 _ A40.out (by first | exact hrt.out | rfl)).mono ?_); rintro e w46 ⟨rfl, hb⟩; have n0_ := Aside0.mk (Kd.R_below (by (with_reducible repeat (first | apply Kd.R_alloc | apply Kd.R_drewN | apply Kd.R_drew)); exact (Kd.R_mono (Kd.R_far (p := ⟨gb159, 1, none⟩) (Kd.R_far (p := ⟨gb159, 0, none⟩) (Kd.R_types HO154.out BK159.out (by decide)) (fun _ hk => hk.2) (.slice Ao43 t152.length co43)) (fun _ hk => hk.2) (.slice Ao45 t155.length co45)) (fun _ h_ => h_.1))) hb); have n1_ := Aside0.mk (Kd.R_below (by (with_reducible repeat (first | apply Kd.R_alloc | apply Kd.R_drewN | apply Kd.R_drew)); exact (Kd.R_mono (Kd.R_far (p := ⟨gb159, 1, none⟩) (Kd.R_far (p := ⟨gb159, 0, none⟩) (Kd.R_types HO157.out BK159.out (by decide)) (fun _ hk => hk.2) (.slice Ao43 t152.length co43)) (fun _ hk => hk.2) (.slice Ao45 t155.length co45)) (fun _ h_ => h_.1))) hb); have n2_ := Aside0.mk (blk_below (g := gb159) (o := .cells #[.slice Ao43 t152.length co43, .slice Ao45 t155.length co45] 25 (0, 0)) (by (with_reducible repeat (first | refine blk_drewN ?_ _ | refine blk_drew ?_ | refine blk_alloc ?_ _)); refine blk_put (cs := #[.slice Ao43 t152.length co43, .slice none 0 0]) ?_ 1 _ rfl; (with_reducible repeat (first | refine blk_drewN ?_ _ | refine blk_drew ?_ | refine blk_alloc ?_ _)); refine blk_put (cs := #[.slice none 0 0, .slice none 0 0]) ?_ 0 _ rfl; (with_reducible repeat (first | refine blk_drewN ?_ _ | refine blk_drew ?_ | refine blk_alloc ?_ _)); exact BK159.out) hb); have n3_ := Aside0.mk (below_step (by repeat (first | (with_reducible first | exact HB.out | apply below_alloc | apply pw_below_drewN | apply below_drew1 | refine below_set ?_ GE159.out) | exact HB.out)) hb); clear HO154; clear HO157; clear BK159; clear HB; have HO154 := n0_; have HO157 := n1_; have BK159 := n2_; have HB := n3_; clear n0_ n1_ n2_ n3_; (try clear hb); (try clear hb2); (try clear hk); (try clear hi)))
        repeat (go_quiet (first | (go_at_call 7; (with_reducible refine (ranges_Pack.calls k _ _ l0 t152 t155 t158 _ ?side1 ?side2 A3.out).mono ?_); (case side1 => repeat (first | exact HR0.out | (with_reducible refine Kd.C_alloc ?_ _) | (with_reducible refine Kd.C_drewN ?_ _) | (with_reducible refine Kd.C_drew ?_))); (case side2 => exact HC0.out); rintro e w41 ⟨v153, v156, rfl, ho0, ho1, hb⟩; have n0_ := Aside0.mk (Kd.R_lower ho0 (below_size (by repeat (first | (with_reducible first | exact HB.out | apply below_alloc | apply pw_below_drewN | apply below_drew1) | exact HB.out)))); have n1_ := Aside0.mk (Kd.R_lower ho1 (below_size (by repeat (first | (with_reducible first | exact HB.out | apply below_alloc | apply pw_below_drewN | apply below_drew1) | exact HB.out)))); have n2_ := Aside0.mk (below_step (by repeat (first | (with_reducible first | exact HB.out | apply below_alloc | apply pw_below_drewN | apply below_drew1) | exact HB.out)) hb); clear HB; have HO154 := n0_; have HO157 := n1_; have HB := n2_; clear n0_ n1_ n2_; (try clear hb); (try clear hb2); (try clear hk); (try clear hi); (try clear ho0); (try clear ho1)) | ((with_reducible refine gate_dst (N := 3) rfl ?_); (try (refine gate_guard (by rfl) ?_; dsimp only)); refine box_event ?hg (N := 3) ?hd (cs := #[.slice none 0 0, .slice none 0 0]) (t := 25) ?hr ?_; (case hd => rfl); (case hg => rfl); (case hr => first | (go_simp; done) | (go_simp; rfl)); intro gb159 hg w42 hbox hb; have n0_ := Aside0.mk (Kd.R_below (by (with_reducible repeat (first | apply Kd.R_alloc | apply Kd.R_drewN | apply Kd.R_drew)); exact HO154.out) hb); have n1_ := Aside0.mk (Kd.R_below (by (with_reducible repeat (first | apply Kd.R_alloc | apply Kd.R_drewN | apply Kd.R_drew)); exact HO157.out) hb); have n2_ := Aside0.mk (below_step (by repeat (first | (with_reducible first | exact HB.out | apply below_alloc | apply pw_below_drewN | apply below_drew1) | exact HB.out)) hb); have n3_ := Aside0.mk (hbox); have n4_ := Aside0.mk ((by rw [hg]; exact (below_size (by repeat (first | (with_reducible first | exact HB.out | apply below_alloc | apply pw_below_drewN | apply below_drew1) | exact HB.out))) : w.heap.size ≤ gb159)); have n5_ := Aside0.mk ((by rw [hg]; exact (below_size (by repeat (first | (with_reducible first | exact HB.out | apply below_alloc | apply pw_below_drewN | apply below_drew1) | exact HB.out))) : w.heap.size ≤ gb159)); clear HO154; clear HO157; clear HB; have HO154 := n0_; have HO157 := n1_; have HB := n2_; have BK159 := n3_; have GW159 := n4_; have GE159 := n5_; clear n0_ n1_ n2_ n3_ n4_ n5_; clear hb hbox hg; obtain ⟨Ao43, co43, eo43⟩ := Kd.R_slice HO154.out; subst eo43; have hcz44_0 : w42.cell? ⟨gb159, 0, none⟩ = some (.slice none 0 0) := (blk_cell BK159.out 0).trans rfl; have hcz44_1 : w42.cell? ⟨gb159, 1, none⟩ = some (.slice none 0 0) := (blk_cell BK159.out 1).trans rfl; have hfz44_0 := blk_frozen BK159.out 0; have hfz44_1 := blk_frozen BK159.out 1; obtain ⟨Ao45, co45, eo45⟩ := Kd.R_slice HO157.out; subst eo45) | (go_at_call 8; (with_reducible refine (sobriquetlaw05_wakes.calls k  t173 _ A40.out (by first | exact hrt.out | rfl)).mono ?_); rintro e w46 ⟨rfl, hb⟩; have n0_ := Aside0.mk (Kd.R_below (by (with_reducible repeat (first | apply Kd.R_alloc | apply Kd.R_drewN | apply Kd.R_drew)); exact (Kd.R_mono (Kd.R_far (p := ⟨gb159, 1, none⟩) (Kd.R_far (p := ⟨gb159, 0, none⟩) (Kd.R_types HO154.out BK159.out (by decide)) (fun _ hk => hk.2) (.slice Ao43 t152.length co43)) (fun _ hk => hk.2) (.slice Ao45 t155.length co45)) (fun _ h_ => h_.1))) hb); have n1_ := Aside0.mk (Kd.R_below (by (with_reducible repeat (first | apply Kd.R_alloc | apply Kd.R_drewN | apply Kd.R_drew)); exact (Kd.R_mono (Kd.R_far (p := ⟨gb159, 1, none⟩) (Kd.R_far (p := ⟨gb159, 0, none⟩) (Kd.R_types HO157.out BK159.out (by decide)) (fun _ hk => hk.2) (.slice Ao43 t152.length co43)) (fun _ hk => hk.2) (.slice Ao45 t155.length co45)) (fun _ h_ => h_.1))) hb); have n2_ := Aside0.mk (blk_below (g := gb159) (o := .cells #[.slice Ao43 t152.length co43, .slice Ao45 t155.length co45] 25 (0, 0)) (by (with_reducible repeat (first | refine blk_drewN ?_ _ | refine blk_drew ?_ | refine blk_alloc ?_ _)); refine blk_put (cs := #[.slice Ao43 t152.length co43, .slice none 0 0]) ?_ 1 _ rfl; (with_reducible repeat (first | refine blk_drewN ?_ _ | refine blk_drew ?_ | refine blk_alloc ?_ _)); refine blk_put (cs := #[.slice none 0 0, .slice none 0 0]) ?_ 0 _ rfl; (with_reducible repeat (first | refine blk_drewN ?_ _ | refine blk_drew ?_ | refine blk_alloc ?_ _)); exact BK159.out) hb); have n3_ := Aside0.mk (below_step (by repeat (first | (with_reducible first | exact HB.out | apply below_alloc | apply pw_below_drewN | apply below_drew1 | refine below_set ?_ GE159.out) | exact HB.out)) hb); clear HO154; clear HO157; clear BK159; clear HB; have HO154 := n0_; have HO157 := n1_; have BK159 := n2_; have HB := n3_; clear n0_ n1_ n2_ n3_; (try clear hb); (try clear hb2); (try clear hk); (try clear hi))); try go_wp2_with (first | (go_at_call 7; (with_reducible refine (ranges_Pack.calls k _ _ l0 t152 t155 t158 _ ?side1 ?side2 A3.out).mono ?_); (case side1 => repeat (first | exact HR0.out | (with_reducible refine Kd.C_alloc ?_ _) | (with_reducible refine Kd.C_drewN ?_ _) | (with_reducible refine Kd.C_drew ?_))); (case side2 => exact HC0.out); rintro e w41 ⟨v153, v156, rfl, ho0, ho1, hb⟩; have n0_ := Aside0.mk (Kd.R_lower ho0 (below_size (by repeat (first | (with_reducible first | exact HB.out | apply below_alloc | apply pw_below_drewN | apply below_drew1) | exact HB.out)))); have n1_ := Aside0.mk (Kd.R_lower ho1 (below_size (by repeat (first | (with_reducible first | exact HB.out | apply below_alloc | apply pw_below_drewN | apply below_drew1) | exact HB.out)))); have n2_ := Aside0.mk (below_step (by repeat (first | (with_reducible first | exact HB.out | apply below_alloc | apply pw_below_drewN | apply below_drew1) | exact HB.out)) hb); clear HB; have HO154 := n0_; have HO157 := n1_; have HB := n2_; clear n0_ n1_ n2_; (try clear hb); (try clear hb2); (try clear hk); (try clear hi); (try clear ho0); (try clear ho1)) | ((with_reducible refine gate_dst (N := 3) rfl ?_); (try (refine gate_guard (by rfl) ?_; dsimp only)); refine box_event ?hg (N := 3) ?hd (cs := #[.slice none 0 0, .slice none 0 0]) (t := 25) ?hr ?_; (case hd => rfl); (case hg => rfl); (case hr => first | (go_simp; done) | (go_simp; rfl)); intro gb159 hg w42 hbox hb; have n0_ := Aside0.mk (Kd.R_below (by (with_reducible repeat (first | apply Kd.R_alloc | apply Kd.R_drewN | apply Kd.R_drew)); exact HO154.out) hb); have n1_ := Aside0.mk (Kd.R_below (by (with_reducible repeat (first | apply Kd.R_alloc | apply Kd.R_drewN | apply Kd.R_drew)); exact HO157.out) hb); have n2_ := Aside0.mk (below_step (by repeat (first | (with_reducible first | exact HB.out | apply below_alloc | apply pw_below_drewN | apply below_drew1) | exact HB.out)) hb); have n3_ := Aside0.mk (hbox); have n4_ := Aside0.mk ((by rw [hg]; exact (below_size (by repeat (first | (with_reducible first | exact HB.out | apply below_alloc | apply pw_below_drewN | apply below_drew1) | exact HB.out))) : w.heap.size ≤ gb159)); have n5_ := Aside0.mk ((by rw [hg]; exact (below_size (by repeat (first | (with_reducible first | exact HB.out | apply below_alloc | apply pw_below_drewN | apply below_drew1) | exact HB.out))) : w.heap.size ≤ gb159)); clear HO154; clear HO157; clear HB; have HO154 := n0_; have HO157 := n1_; have HB := n2_; have BK159 := n3_; have GW159 := n4_; have GE159 := n5_; clear n0_ n1_ n2_ n3_ n4_ n5_; clear hb hbox hg; obtain ⟨Ao43, co43, eo43⟩ := Kd.R_slice HO154.out; subst eo43; have hcz44_0 : w42.cell? ⟨gb159, 0, none⟩ = some (.slice none 0 0) := (blk_cell BK159.out 0).trans rfl; have hcz44_1 : w42.cell? ⟨gb159, 1, none⟩ = some (.slice none 0 0) := (blk_cell BK159.out 1).trans rfl; have hfz44_0 := blk_frozen BK159.out 0; have hfz44_1 := blk_frozen BK159.out 1; obtain ⟨Ao45, co45, eo45⟩ := Kd.R_slice HO157.out; subst eo45) | (go_at_call 8; (with_reducible refine (sobriquetlaw05_wakes.calls k  t173 _ A40.out (by first | exact hrt.out | rfl)).mono ?_); rintro e w46 ⟨rfl, hb⟩; have n0_ := Aside0.mk (Kd.R_below (by (with_reducible repeat (first | apply Kd.R_alloc | apply Kd.R_drewN | apply Kd.R_drew)); exact (Kd.R_mono (Kd.R_far (p := ⟨gb159, 1, none⟩) (Kd.R_far (p := ⟨gb159, 0, none⟩) (Kd.R_types HO154.out BK159.out (by decide)) (fun _ hk => hk.2) (.slice Ao43 t152.length co43)) (fun _ hk => hk.2) (.slice Ao45 t155.length co45)) (fun _ h_ => h_.1))) hb); have n1_ := Aside0.mk (Kd.R_below (by (with_reducible repeat (first | apply Kd.R_alloc | apply Kd.R_drewN | apply Kd.R_drew)); exact (Kd.R_mono (Kd.R_far (p := ⟨gb159, 1, none⟩) (Kd.R_far (p := ⟨gb159, 0, none⟩) (Kd.R_types HO157.out BK159.out (by decide)) (fun _ hk => hk.2) (.slice Ao43 t152.length co43)) (fun _ hk => hk.2) (.slice Ao45 t155.length co45)) (fun _ h_ => h_.1))) hb); have n2_ := Aside0.mk (blk_below (g := gb159) (o := .cells #[.slice Ao43 t152.length co43, .slice Ao45 t155.length co45] 25 (0, 0)) (by (with_reducible repeat (first | refine blk_drewN ?_ _ | refine blk_drew ?_ | refine blk_alloc ?_ _)); refine blk_put (cs := #[.slice Ao43 t152.length co43, .slice none 0 0]) ?_ 1 _ rfl; (with_reducible repeat (first | refine blk_drewN ?_ _ | refine blk_drew ?_ | refine blk_alloc ?_ _)); refine blk_put (cs := #[.slice none 0 0, .slice none 0 0]) ?_ 0 _ rfl; (with_reducible repeat (first | refine blk_drewN ?_ _ | refine blk_drew ?_ | refine blk_alloc ?_ _)); exact BK159.out) hb); have n3_ := Aside0.mk (below_step (by repeat (first | (with_reducible first | exact HB.out | apply below_alloc | apply pw_below_drewN | apply below_drew1 | refine below_set ?_ GE159.out) | exact HB.out)) hb); clear HO154; clear HO157; clear BK159; clear HB; have HO154 := n0_; have HO157 := n1_; have BK159 := n2_; have HB := n3_; clear n0_ n1_ n2_ n3_; (try clear hb); (try clear hb2); (try clear hk); (try clear hi))))
        go_ret
        exact ⟨by first | rfl | (simp [errW_none, errW_some] <;> rfl) | (simp [*, errW_none, errW_some] <;> rfl), by repeat (first | (with_reducible first | exact HB.out | apply below_alloc | apply pw_below_drewN | apply below_drew1 | refine below_set ?_ GE159.out) | exact HB.out)⟩
      · rw [if_neg c39] at H
        have c39b0 : (t158 == 1) = false := beq_eq_false_iff_ne.mpr c39
        have c39b1 : (t158 != 1) = true := bne_iff_ne.mpr c39
        exact absurd ((Option.some.inj H).trans hrt.out) (by decide)

def sobriquetlaw05_RangesSmall.Pure : Prop := ∀ (l0 : List (S44)), l0.length ≤ maxLen → (∀ x ∈ l0, (Lit.int .i64 x.f0).wf = true ∧ (Lit.int .i64 x.f1).wf = true ∧ (Lit.int .i64 x.f2).wf = true) → ∃ k, sobriquetlaw05_RangesSmall.f k l0 = some true
theorem sobriquetlaw05_RangesSmall.walk (P : sobriquetlaw05_RangesSmall.Pure) (A0 : Option Addr) (c0 : Nat) (l0 : List (S44)) (w : World) (hr0 : Kd.C k44 w A0 l0.length l0) (hc0 : l0.length ≤ c0) (hm0 : l0.length ≤ maxLen) (hw0 : ∀ x ∈ l0, (Lit.int .i64 x.f0).wf = true ∧ (Lit.int .i64 x.f1).wf = true ∧ (Lit.int .i64 x.f2).wf = true) :
    Calls Try.prog 3 #[.slice A0 l0.length c0] w fun e w' => e = .returned (.bool true) ∧ Below w.heap.size w w' := by
  obtain ⟨k, h⟩ := P l0 hm0 hw0
  refine (sobriquetlaw05_RangesSmall.calls k _ _ l0 true w hr0 hc0 h rfl).mono ?_
  rintro e w' ⟨rfl, hd⟩
  exact ⟨rfl, hd⟩

end Go.Proofs.Ytaniolefeieliaa.MRangesSmall
