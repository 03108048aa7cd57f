-- Written by a program of this session over the translation; checked by Lean alone.
import Derived.Test.YtaniolefeieliaaVMRangesExactx0
import Derived.Test.YtaniolefeieliaaVMRangesExactx3
namespace Go.Proofs.Ytaniolefeieliaa.MRangesExact
open Go.RowKit Go.Proofs.YtaniolefeieliaaW.PrintWords Go.Proofs.YtaniolefeieliaaW.PrintLast Go.Proofs.YtaniolefeieliaaW.PrintMore
attribute [local go_sem] max2_int min2_int max_two min_two max_three min_three max_four min_four   -- for this text's walks alone
set_option linter.unusedVariables false
set_option linter.unusedSimpArgs false
set_option linter.unnecessarySimpa false

/-! ### sobriquetref05_Unpack: function 15 -/
mutual
def sobriquetref05_Unpack.l0 : Nat → Int → List Int → List Int → Option ((List (S44)) × Bool)
 | 0, _, _, _ => none
 | k + 1, x4, x160000, x160001 => if x4 < (x160001.length : Int) then (if 0 ≤ x4 then ((sobriquetref05_in.f (rd x160001 x4) 0 65535).bind fun t161 => (if t161 = true then (sobriquetref05_Unpack.l0 k (wrap64 (x4 + 1)) x160000 x160001) else (some (([] : List (S44)), false)))) else (none)) else (sobriquetref05_Unpack.l1 k ([] : List (S44)) 0 x160000 x160001)
def sobriquetref05_Unpack.l1 : Nat → List (S44) → Int → List Int → List Int → Option ((List (S44)) × Bool)
 | 0, _, _, _, _ => none
 | k + 1, x5, x6, x160000, x160001 => if x6 < 4352 then (if 0 ≤ x6 then (if x6 < (x160000.length : Int) then ((sobriquetref05_in.f (rd x160000 x6) 0 (wrap64 ((wrap64 ((x160001.length : Int) / 256)) - 1))).bind fun t163 => (if t163 = true then (sobriquetref05_Unpack.l2 k x5 x6 0 x160000 x160001) else (some (([] : List (S44)), false)))) else (none)) else (none)) else (if (x5.length : Int) > 2000 then (some (([] : List (S44)), false)) else (some (x5, true)))
def sobriquetref05_Unpack.l2 : Nat → List (S44) → Int → Int → List Int → List Int → Option ((List (S44)) × Bool)
 | 0, _, _, _, _, _ => none
 | k + 1, x5, x6, x7, x160000, x160001 => if x7 < 256 then (if 0 ≤ x6 then (if x6 < (x160000.length : Int) then (if 0 ≤ (wrap64 ((wrap64 (256 * (rd x160000 x6))) + x7)) then (if (wrap64 ((wrap64 (256 * (rd x160000 x6))) + x7)) < (x160001.length : Int) then (if (rd x160001 (wrap64 ((wrap64 (256 * (rd x160000 x6))) + x7))) = 0 then (sobriquetref05_Unpack.l2 k x5 x6 (wrap64 (x7 + 1)) x160000 x160001) else (if (x5.length : Int) > 0 then (if 0 ≤ (wrap64 ((x5.length : Int) - 1)) then (if (wrap64 ((x5.length : Int) - 1)) < (x5.length : Int) then (if ((rd_T44 x5 (wrap64 ((x5.length : Int) - 1))).f1) = (wrap64 ((wrap64 ((wrap64 (256 * x6)) + x7)) - 1)) then (if ((rd_T44 x5 (wrap64 ((x5.length : Int) - 1))).f2) = (rd x160001 (wrap64 ((wrap64 (256 * (rd x160000 x6))) + x7))) then ((some (x5.set ((wrap64 ((x5.length : Int) - 1)) : Int).toNat (⟨(rd_T44 x5 (wrap64 ((x5.length : Int) - 1))).f0, wrap64 ((wrap64 (256 * x6)) + x7), (rd_T44 x5 (wrap64 ((x5.length : Int) - 1))).f2⟩ : S44) : List (S44))).bind fun y168 => (if (x5.length : Int) > 2001 then (sobriquetref05_Unpack.l1 k y168 (wrap64 (x6 + 1)) x160000 x160001) else (sobriquetref05_Unpack.l2 k y168 x6 (wrap64 (x7 + 1)) x160000 x160001))) else (if x5.length < 5864062014805 then ((some (x5 ++ [(⟨wrap64 ((wrap64 (256 * x6)) + x7), wrap64 ((wrap64 (256 * x6)) + x7), rd x160001 (wrap64 ((wrap64 (256 * (rd x160000 x6))) + x7))⟩ : S44)] : List (S44))).bind fun y169 => (if (y169.length : Int) > 2001 then (sobriquetref05_Unpack.l1 k y169 (wrap64 (x6 + 1)) x160000 x160001) else (sobriquetref05_Unpack.l2 k y169 x6 (wrap64 (x7 + 1)) x160000 x160001))) else (none))) else (if x5.length < 5864062014805 then ((some (x5 ++ [(⟨wrap64 ((wrap64 (256 * x6)) + x7), wrap64 ((wrap64 (256 * x6)) + x7), rd x160001 (wrap64 ((wrap64 (256 * (rd x160000 x6))) + x7))⟩ : S44)] : List (S44))).bind fun y172 => (if (y172.length : Int) > 2001 then (sobriquetref05_Unpack.l1 k y172 (wrap64 (x6 + 1)) x160000 x160001) else (sobriquetref05_Unpack.l2 k y172 x6 (wrap64 (x7 + 1)) x160000 x160001))) else (none))) else (none)) else (none)) else (if x5.length < 5864062014805 then ((some (x5 ++ [(⟨wrap64 ((wrap64 (256 * x6)) + x7), wrap64 ((wrap64 (256 * x6)) + x7), rd x160001 (wrap64 ((wrap64 (256 * (rd x160000 x6))) + x7))⟩ : S44)] : List (S44))).bind fun y175 => (if (y175.length : Int) > 2001 then (sobriquetref05_Unpack.l1 k y175 (wrap64 (x6 + 1)) x160000 x160001) else (sobriquetref05_Unpack.l2 k y175 x6 (wrap64 (x7 + 1)) x160000 x160001))) else (none)))) else (none)) else (none)) else (none)) else (none)) else (sobriquetref05_Unpack.l1 k x5 (wrap64 (x6 + 1)) x160000 x160001)
end
def sobriquetref05_Unpack.f (k : Nat) (l0_0 : List Int) (l0_1 : List Int) : Option ((List (S44)) × Bool) := if (l0_0.length : Int) = 4352 then (if ((l0_1.length : Int) % 256) = 0 then (sobriquetref05_Unpack.l0 k 0 l0_0 l0_1) else (some (([] : List (S44)), false))) else (some (([] : List (S44)), false))
theorem sobriquetref05_Unpack.mono_l : ∀ k, (∀ y0 y1 y2, LeO (sobriquetref05_Unpack.l0 k y0 y1 y2) (sobriquetref05_Unpack.l0 (k + 1) y0 y1 y2)) ∧ (∀ y0 y1 y2 y3, LeO (sobriquetref05_Unpack.l1 k y0 y1 y2 y3) (sobriquetref05_Unpack.l1 (k + 1) y0 y1 y2 y3)) ∧ (∀ y0 y1 y2 y3 y4, LeO (sobriquetref05_Unpack.l2 k y0 y1 y2 y3 y4) (sobriquetref05_Unpack.l2 (k + 1) y0 y1 y2 y3 y4))
 | 0 => ⟨fun _ _ _ r h => by simp [sobriquetref05_Unpack.l0] at h, fun _ _ _ _ r h => by simp [sobriquetref05_Unpack.l1] at h, fun _ _ _ _ _ r h => by simp [sobriquetref05_Unpack.l2] at h⟩
 | k + 1 => by
  obtain ⟨ih0, ih1, ih2⟩ := sobriquetref05_Unpack.mono_l k
  refine ⟨?_, ?_, ?_⟩
  ·
   intro y0 y1 y2
   unfold sobriquetref05_Unpack.l0
   repeat' first
   | (with_reducible exact ih0 _ _ _)
   | (with_reducible exact ih1 _ _ _ _)
   | (with_reducible exact ih2 _ _ _ _ _)
   | (with_reducible exact LeO.refl _)
   | (with_reducible exact LeO.none _)
   | (with_reducible refine LeO.ite ?_ ?_)
   | (with_reducible refine LeO.bind ?_ (fun _ => ?_))
   | exact ih0 _ _ _
   | exact ih1 _ _ _ _
   | exact ih2 _ _ _ _ _
   | exact LeO.none _
   | refine LeO.ite ?_ ?_
   | refine LeO.bind ?_ (fun _ => ?_)
  ·
   intro y0 y1 y2 y3
   unfold sobriquetref05_Unpack.l1
   repeat' first
   | (with_reducible exact ih0 _ _ _)
   | (with_reducible exact ih1 _ _ _ _)
   | (with_reducible exact ih2 _ _ _ _ _)
   | (with_reducible exact LeO.refl _)
   | (with_reducible exact LeO.none _)
   | (with_reducible refine LeO.ite ?_ ?_)
   | (with_reducible refine LeO.bind ?_ (fun _ => ?_))
   | exact ih0 _ _ _
   | exact ih1 _ _ _ _
   | exact ih2 _ _ _ _ _
   | exact LeO.none _
   | refine LeO.ite ?_ ?_
   | refine LeO.bind ?_ (fun _ => ?_)
  ·
   intro y0 y1 y2 y3 y4
   unfold sobriquetref05_Unpack.l2
   repeat' first
   | (with_reducible exact ih0 _ _ _)
   | (with_reducible exact ih1 _ _ _ _)
   | (with_reducible exact ih2 _ _ _ _ _)
   | (with_reducible exact LeO.refl _)
   | (with_reducible exact LeO.none _)
   | (with_reducible refine LeO.ite ?_ ?_)
   | (with_reducible refine LeO.bind ?_ (fun _ => ?_))
   | exact ih0 _ _ _
   | exact ih1 _ _ _ _
   | exact ih2 _ _ _ _ _
   | exact LeO.none _
   | refine LeO.ite ?_ ?_
   | refine LeO.bind ?_ (fun _ => ?_)
theorem sobriquetref05_Unpack.mono : ∀ a0 a1 k, LeO (sobriquetref05_Unpack.f k a0 a1) (sobriquetref05_Unpack.f (k + 1) a0 a1) := by
 intro a0 a1 k
 obtain ⟨ih0, ih1, ih2⟩ := sobriquetref05_Unpack.mono_l k
 unfold sobriquetref05_Unpack.f
 repeat' first
   | (with_reducible exact ih0 _ _ _)
   | (with_reducible exact ih1 _ _ _ _)
   | (with_reducible exact ih2 _ _ _ _ _)
   | (with_reducible exact LeO.refl _)
   | (with_reducible exact LeO.none _)
   | (with_reducible refine LeO.ite ?_ ?_)
   | (with_reducible refine LeO.bind ?_ (fun _ => ?_))
   | exact ih0 _ _ _
   | exact ih1 _ _ _ _
   | exact ih2 _ _ _ _ _
   | exact LeO.none _
   | refine LeO.ite ?_ ?_
   | refine LeO.bind ?_ (fun _ => ?_)
set_option maxHeartbeats 8000000 in
set_option maxRecDepth 100000 in
theorem sobriquetref05_Unpack.calls (k : Nat) (A0_0 : Option Addr) (c0_0 : Nat) (l0_0 : List Int) (A0_1 : Option Addr) (c0_1 : Nat) (l0_1 : List Int) (r1 : List (S44)) (r2 : Bool) (w : World) (hr0_0 : Kd.C (Kd.int .i64) w A0_0 l0_0.length l0_0) (hc0_0 : l0_0.length ≤ c0_0) (hr0_1 : Kd.C (Kd.int .i64) w A0_1 l0_1.length l0_1) (hc0_1 : l0_1.length ≤ c0_1) (h : sobriquetref05_Unpack.f k l0_0 l0_1 = some (r1, r2)) :
  Calls Try.prog 15 #[.agg #[.slice A0_0 l0_0.length c0_0, .slice A0_1 l0_1.length c0_1]] w fun e w' => ∃ v0_ : Value, e = .returned (.tuple #[v0_, .bool r2]) ∧ Kd.R k44 44 w' w.heap.size (fun _ => True) v0_ r1 ∧ Below w.heap.size w w' := by
 have hu25 := Try.underlying25
 have hu44 := Try.underlying44
 have HR0_0 := Aside0.mk hr0_0
 have HC0_0 := Aside0.mk hc0_0
 clear hr0_0 hc0_0
 have HR0_1 := Aside0.mk hr0_1
 have HC0_1 := Aside0.mk hc0_1
 clear hr0_1 hc0_1
 have HB := Aside0.mk (Below.refl w.heap.size w)
 have H : (if (l0_0.length : Int) = 4352 then (if ((l0_1.length : Int) % 256) = 0 then (sobriquetref05_Unpack.l0 k 0 l0_0 l0_1) else (some (([] : List (S44)), false))) else (some (([] : List (S44)), false))) = some (r1, r2) := h
 clear h
 by_cases c2 : (l0_0.length : Int) = 4352
 ·
  rw [if_pos c2] at H
  have c2b0 : ((l0_0.length : Int) == 4352) = true := beq_iff_eq.mpr c2
  have c2b1 : ((l0_0.length : Int) != 4352) = false := bne_eq_false_iff_eq.mpr c2
  clear c2
  by_cases c3 : ((l0_1.length : Int) % 256) = 0
  ·
   rw [if_pos c3] at H
   have c3b0 : (((l0_1.length : Int) % 256) == 0) = true := beq_iff_eq.mpr c3
   have c3b1 : (((l0_1.length : Int) % 256) != 0) = false := bne_eq_false_iff_eq.mpr c3
   clear c3
   have H' := Aside0.mk H
   clear H
   go_enter Try.func15, Try.ntmps15
   go_wp2_with (first | ((with_reducible refine gate_dst (N := 1) rfl ?_); (try (refine gate_guard (by rfl) ?_; dsimp only)); refine box_event ?hg (N := 1) ?hd (cs := #[.slice A0_0 l0_0.length c0_0, .slice A0_1 l0_1.length c0_1]) (t := 25) ?hr ?_; (case hd => rfl); (case hg => rfl); (case hr => first | (go_simp; done) | (go_simp; rfl)); intro gb159 hg w4 hbox hb; have n0_ := Aside0.mk (below_step (by repeat (first | (with_reducible first | exact HB.out | apply below_alloc | apply pw_below_drewN | apply below_drew1) | exact HB.out)) hb); have n1_ := Aside0.mk (hbox); have n2_ := Aside0.mk ((by rw [hg]; exact (below_size (by repeat (first | (with_reducible first | exact HB.out | apply below_alloc | apply pw_below_drewN | apply below_drew1) | exact HB.out))) : w.heap.size ≤ gb159)); have n3_ := Aside0.mk ((by rw [hg]; exact (below_size (by repeat (first | (with_reducible first | exact HB.out | apply below_alloc | apply pw_below_drewN | apply below_drew1) | exact HB.out))) : w.heap.size ≤ gb159)); clear HB; have HB := n0_; have BK159 := n1_; have GW159 := n2_; have GE159 := n3_; clear n0_ n1_ n2_ n3_; clear hb hbox hg; have hcz5_0 : w4.cell? ⟨gb159, 0, none⟩ = some (.slice A0_0 l0_0.length c0_0) := (blk_cell BK159.out 0).trans rfl; have hcz5_1 : w4.cell? ⟨gb159, 1, none⟩ = some (.slice A0_1 l0_1.length c0_1) := (blk_cell BK159.out 1).trans rfl; have hfz5_0 := blk_frozen BK159.out 0; have hfz5_1 := blk_frozen BK159.out 1))
   repeat (go_quiet (first | ((with_reducible refine gate_dst (N := 1) rfl ?_); (try (refine gate_guard (by rfl) ?_; dsimp only)); refine box_event ?hg (N := 1) ?hd (cs := #[.slice A0_0 l0_0.length c0_0, .slice A0_1 l0_1.length c0_1]) (t := 25) ?hr ?_; (case hd => rfl); (case hg => rfl); (case hr => first | (go_simp; done) | (go_simp; rfl)); intro gb159 hg w4 hbox hb; have n0_ := Aside0.mk (below_step (by repeat (first | (with_reducible first | exact HB.out | apply below_alloc | apply pw_below_drewN | apply below_drew1) | exact HB.out)) hb); have n1_ := Aside0.mk (hbox); have n2_ := Aside0.mk ((by rw [hg]; exact (below_size (by repeat (first | (with_reducible first | exact HB.out | apply below_alloc | apply pw_below_drewN | apply below_drew1) | exact HB.out))) : w.heap.size ≤ gb159)); have n3_ := Aside0.mk ((by rw [hg]; exact (below_size (by repeat (first | (with_reducible first | exact HB.out | apply below_alloc | apply pw_below_drewN | apply below_drew1) | exact HB.out))) : w.heap.size ≤ gb159)); clear HB; have HB := n0_; have BK159 := n1_; have GW159 := n2_; have GE159 := n3_; clear n0_ n1_ n2_ n3_; clear hb hbox hg; have hcz5_0 : w4.cell? ⟨gb159, 0, none⟩ = some (.slice A0_0 l0_0.length c0_0) := (blk_cell BK159.out 0).trans rfl; have hcz5_1 : w4.cell? ⟨gb159, 1, none⟩ = some (.slice A0_1 l0_1.length c0_1) := (blk_cell BK159.out 1).trans rfl; have hfz5_0 := blk_frozen BK159.out 0; have hfz5_1 := blk_frozen BK159.out 1)); try go_wp2_with (first | ((with_reducible refine gate_dst (N := 1) rfl ?_); (try (refine gate_guard (by rfl) ?_; dsimp only)); refine box_event ?hg (N := 1) ?hd (cs := #[.slice A0_0 l0_0.length c0_0, .slice A0_1 l0_1.length c0_1]) (t := 25) ?hr ?_; (case hd => rfl); (case hg => rfl); (case hr => first | (go_simp; done) | (go_simp; rfl)); intro gb159 hg w4 hbox hb; have n0_ := Aside0.mk (below_step (by repeat (first | (with_reducible first | exact HB.out | apply below_alloc | apply pw_below_drewN | apply below_drew1) | exact HB.out)) hb); have n1_ := Aside0.mk (hbox); have n2_ := Aside0.mk ((by rw [hg]; exact (below_size (by repeat (first | (with_reducible first | exact HB.out | apply below_alloc | apply pw_below_drewN | apply below_drew1) | exact HB.out))) : w.heap.size ≤ gb159)); have n3_ := Aside0.mk ((by rw [hg]; exact (below_size (by repeat (first | (with_reducible first | exact HB.out | apply below_alloc | apply pw_below_drewN | apply below_drew1) | exact HB.out))) : w.heap.size ≤ gb159)); clear HB; have HB := n0_; have BK159 := n1_; have GW159 := n2_; have GE159 := n3_; clear n0_ n1_ n2_ n3_; clear hb hbox hg; have hcz5_0 : w4.cell? ⟨gb159, 0, none⟩ = some (.slice A0_0 l0_0.length c0_0) := (blk_cell BK159.out 0).trans rfl; have hcz5_1 : w4.cell? ⟨gb159, 1, none⟩ = some (.slice A0_1 l0_1.length c0_1) := (blk_cell BK159.out 1).trans rfl; have hfz5_0 := blk_frozen BK159.out 0; have hfz5_1 := blk_frozen BK159.out 1)))
   go_loopg [4] k (fun kq v4 w' => ∃ (x4_1 : Int), v4 = .int .i64 x4_1 ∧ Aside0 (sobriquetref05_Unpack.l0 kq x4_1 l0_0 l0_1 = some (r1, r2)) ∧ Aside0 (kq ≤ k) ∧ Aside0 (w'.heap[gb159]? = some (.cells #[(.slice A0_0 l0_0.length c0_0), (.slice A0_1 l0_1.length c0_1)] 25 (0, 0))) ∧ Aside0 (Below w.heap.size w w'))
   case atStart => exact ⟨(0), (by first | rfl | (simp; done) | (simp [*]; done)), H', ⟨Nat.le_refl _⟩, ⟨by (with_reducible repeat (first | refine blk_drewN ?_ _ | refine blk_drew ?_ | refine blk_alloc ?_ _)); exact BK159.out⟩, ⟨by repeat (first | (with_reducible first | exact HB.out | apply below_alloc | apply pw_below_drewN | apply below_drew1 | refine below_set ?_ GE159.out) | exact HB.out)⟩⟩
   case round =>
    clear H'
    try clear c1
    try clear c2
    try clear c2b0
    try clear c2b1
    try clear p2
    try clear c3
    try clear c3b0
    try clear c3b1
    try clear hcz5_0
    try clear hcz5_1
    try clear hfz5_0
    try clear hfz5_1
    obtain ⟨x4_1, rfl, HA, HK1, BK159, HB⟩ := hrel
    cases gk with
    | zero => exact absurd HA.out (by simp [sobriquetref05_Unpack.l0])
    | succ k1 =>
     have H := HA.out
     clear HA
     simp only [sobriquetref05_Unpack.l0] at H
     by_cases c6 : x4_1 < (l0_1.length : Int)
     ·
      rw [if_pos c6] at H
      have c6b0 : decide (x4_1 < (l0_1.length : Int)) = true := decide_eq_true c6
      clear c6
      by_cases c7 : 0 ≤ x4_1
      ·
       rw [if_pos c7] at H
       have c7b0 : decide (0 ≤ x4_1) = true := decide_eq_true c7
       clear c7
       replace H := Option.bind_eq_some_iff.mp H
       obtain ⟨t161, A80, H⟩ := H
       replace H : (if t161 = true then (sobriquetref05_Unpack.l0 k1 (wrap64 (x4_1 + 1)) l0_0 l0_1) else (some (([] : List (S44)), false))) = some (r1, r2) := H
       have A8 := Aside0.mk A80
       clear A80
       by_cases c9 : t161 = true
       ·
        subst c9
        have H1 : (sobriquetref05_Unpack.l0 k1 (wrap64 (x4_1 + 1)) l0_0 l0_1) = some (r1, r2) := by rw [if_pos rfl] at H; exact H
        clear H
        have H := H1
        clear H1
        have H' := Aside0.mk H
        clear H
        have hcz10_0 : wr.cell? ⟨gb159, 0, none⟩ = some (.slice A0_0 l0_0.length c0_0) := (blk_cell BK159.out 0).trans rfl
        have hcz10_1 : wr.cell? ⟨gb159, 1, none⟩ = some (.slice A0_1 l0_1.length c0_1) := (blk_cell BK159.out 1).trans rfl
        have hfz10_0 := blk_frozen BK159.out 0
        have hfz10_1 := blk_frozen BK159.out 1
        have p160 : 0 ≤ (x4_1 : Int) := of_decide_eq_true (by first | (with_reducible assumption) | assumption)
        have q160 : x4_1 < (l0_1.length : Int) := of_decide_eq_true (by first | (with_reducible assumption) | assumption)
        obtain ⟨ad160, e160, hx160_0⟩ := Kd.at_int HR0_1.out x4_1 p160 q160
        cases e160
        replace hx160_0 := (HB.out.cell (World.block_lt_of_cell? w _ hx160_0)).trans hx160_0
        replace p160 := eq_true p160
        replace q160 := eq_true q160
        go_wp2_with (first | (go_at_call 23; (with_reducible refine (sobriquetref05_in.calls (rd l0_1 x4_1) 0 65535 true _ A8.out).mono ?_); rintro e w' ⟨rfl, ⟨nd, rfl⟩⟩; (try first | exact ⟨rfl, _, World.drewN_drewN _ _ _⟩ | exact ⟨rfl, _, Eq.trans (World.drewN_drewN _ _ _) (congrArg (World.drewN _) (Nat.add_assoc _ _ _))⟩)))
        repeat (go_quiet (first | (go_at_call 23; (with_reducible refine (sobriquetref05_in.calls (rd l0_1 x4_1) 0 65535 true _ A8.out).mono ?_); rintro e w' ⟨rfl, ⟨nd, rfl⟩⟩; (try first | exact ⟨rfl, _, World.drewN_drewN _ _ _⟩ | exact ⟨rfl, _, Eq.trans (World.drewN_drewN _ _ _) (congrArg (World.drewN _) (Nat.add_assoc _ _ _))⟩))); try go_wp2_with (first | (go_at_call 23; (with_reducible refine (sobriquetref05_in.calls (rd l0_1 x4_1) 0 65535 true _ A8.out).mono ?_); rintro e w' ⟨rfl, ⟨nd, rfl⟩⟩; (try first | exact ⟨rfl, _, World.drewN_drewN _ _ _⟩ | exact ⟨rfl, _, Eq.trans (World.drewN_drewN _ _ _) (congrArg (World.drewN _) (Nat.add_assoc _ _ _))⟩))))
        go_roundg k1
        case measure => have := HK1.out; omega
        case rel => exact ⟨(wrap64 (x4_1 + 1)), (by first | rfl | (simp; done) | (simp [*]; done)), H', ⟨by have := HK1.out; omega⟩, ⟨by (with_reducible repeat (first | refine blk_drewN ?_ _ | refine blk_drew ?_ | refine blk_alloc ?_ _)); exact BK159.out⟩, ⟨by repeat (first | (with_reducible first | exact HB.out | apply below_alloc | apply pw_below_drewN | apply below_drew1 | refine below_set ?_ GE159.out) | exact HB.out)⟩⟩
       ·
        replace c9 := Bool.eq_false_iff.mpr c9
        subst c9
        have H1 : (some (([] : List (S44)), false)) = some (r1, r2) := by rw [if_neg (show ¬ (false = true) by decide)] at H; exact H
        clear H
        have H := H1
        clear H1
        simp only [Option.some.injEq, Prod.mk.injEq] at H
        obtain ⟨rfl, rfl⟩ := H
        have hcz11_0 : wr.cell? ⟨gb159, 0, none⟩ = some (.slice A0_0 l0_0.length c0_0) := (blk_cell BK159.out 0).trans rfl
        have hcz11_1 : wr.cell? ⟨gb159, 1, none⟩ = some (.slice A0_1 l0_1.length c0_1) := (blk_cell BK159.out 1).trans rfl
        have hfz11_0 := blk_frozen BK159.out 0
        have hfz11_1 := blk_frozen BK159.out 1
        have p160 : 0 ≤ (x4_1 : Int) := of_decide_eq_true (by first | (with_reducible assumption) | assumption)
        have q160 : x4_1 < (l0_1.length : Int) := of_decide_eq_true (by first | (with_reducible assumption) | assumption)
        obtain ⟨ad160, e160, hx160_0⟩ := Kd.at_int HR0_1.out x4_1 p160 q160
        cases e160
        replace hx160_0 := (HB.out.cell (World.block_lt_of_cell? w _ hx160_0)).trans hx160_0
        replace p160 := eq_true p160
        replace q160 := eq_true q160
        go_wp2_with (first | (go_at_call 23; (with_reducible refine (sobriquetref05_in.calls (rd l0_1 x4_1) 0 65535 false _ A8.out).mono ?_); rintro e w' ⟨rfl, ⟨nd, rfl⟩⟩; (try first | exact ⟨rfl, _, World.drewN_drewN _ _ _⟩ | exact ⟨rfl, _, Eq.trans (World.drewN_drewN _ _ _) (congrArg (World.drewN _) (Nat.add_assoc _ _ _))⟩)))
        repeat (go_quiet (first | (go_at_call 23; (with_reducible refine (sobriquetref05_in.calls (rd l0_1 x4_1) 0 65535 false _ A8.out).mono ?_); rintro e w' ⟨rfl, ⟨nd, rfl⟩⟩; (try first | exact ⟨rfl, _, World.drewN_drewN _ _ _⟩ | exact ⟨rfl, _, Eq.trans (World.drewN_drewN _ _ _) (congrArg (World.drewN _) (Nat.add_assoc _ _ _))⟩))); try go_wp2_with (first | (go_at_call 23; (with_reducible refine (sobriquetref05_in.calls (rd l0_1 x4_1) 0 65535 false _ A8.out).mono ?_); rintro e w' ⟨rfl, ⟨nd, rfl⟩⟩; (try first | exact ⟨rfl, _, World.drewN_drewN _ _ _⟩ | exact ⟨rfl, _, Eq.trans (World.drewN_drewN _ _ _) (congrArg (World.drewN _) (Nat.add_assoc _ _ _))⟩))))
        go_ret2
        exact ⟨_, by first | rfl | (simp [errW_none, errW_some] <;> rfl) | (simp [*, errW_none, errW_some] <;> rfl), by first | exact Kd.R_nil _ _ _ _ _ | exact Kd.N_nil _ _ _ _ _ | exact Kd.V_nil _ _ _ _ _ | exact Kd.Q_nil _ _ _ _ _ | exact Kd.S_nil _ _ _ _ _, by repeat (first | (with_reducible first | exact HB.out | apply below_alloc | apply pw_below_drewN | apply below_drew1 | refine below_set ?_ GE159.out) | exact HB.out)⟩
      ·
       rw [if_neg c7] at H
       exact absurd H (by simp)
     ·
      rw [if_neg c6] at H
      have c6b0 : decide (x4_1 < (l0_1.length : Int)) = false := decide_eq_false c6
      clear c6
      have H' := Aside0.mk H
      clear H
      have hcz12_0 : wr.cell? ⟨gb159, 0, none⟩ = some (.slice A0_0 l0_0.length c0_0) := (blk_cell BK159.out 0).trans rfl
      have hcz12_1 : wr.cell? ⟨gb159, 1, none⟩ = some (.slice A0_1 l0_1.length c0_1) := (blk_cell BK159.out 1).trans rfl
      have hfz12_0 := blk_frozen BK159.out 0
      have hfz12_1 := blk_frozen BK159.out 1
      go_wp2
      repeat (go_quiet (fail); try go_wp2)
      go_loopg [5, 6] k1 (fun kq v5 v6 w' => ∃ (x5_2 : List (S44)) (x6_2 : Int), v6 = .int .i64 x6_2 ∧ Aside0 (sobriquetref05_Unpack.l1 kq x5_2 x6_2 l0_0 l0_1 = some (r1, r2)) ∧ Aside0 (kq ≤ k1) ∧ Aside0 (Kd.R k44 44 w' w.heap.size (fun _ => True) v5 x5_2) ∧ Aside0 (w'.heap[gb159]? = some (.cells #[(.slice A0_0 l0_0.length c0_0), (.slice A0_1 l0_1.length c0_1)] 25 (0, 0))) ∧ Aside0 (Below w.heap.size w w'))
      case atStart => exact ⟨(([] : List (S44))), (0), (by first | rfl | (simp; done) | (simp [*]; done)), H', ⟨Nat.le_refl _⟩, ⟨by first | exact Kd.R_nil _ _ _ _ _ | exact Kd.N_nil _ _ _ _ _ | exact Kd.V_nil _ _ _ _ _ | exact Kd.Q_nil _ _ _ _ _ | exact Kd.S_nil _ _ _ _ _⟩, ⟨by (with_reducible repeat (first | refine blk_drewN ?_ _ | refine blk_drew ?_ | refine blk_alloc ?_ _)); exact BK159.out⟩, ⟨by repeat (first | (with_reducible first | exact HB.out | apply below_alloc | apply pw_below_drewN | apply below_drew1 | refine below_set ?_ GE159.out) | exact HB.out)⟩⟩
      case round =>
       clear H'
       try clear c1
       try clear p1
       try clear q1
       try clear hx1
       try clear c2
       try clear c2b0
       try clear c2b1
       try clear p2
       try clear c3
       try clear c3b0
       try clear c3b1
       try clear c6
       try clear c6b0
       try clear p6
       try clear c7
       try clear c7b0
       try clear c9
       try clear hcz10_0
       try clear hcz10_1
       try clear hcz11_0
       try clear hcz11_1
       try clear hcz12_0
       try clear hcz12_1
       try clear hcz5_0
       try clear hcz5_1
       try clear hfz10_0
       try clear hfz10_1
       try clear hfz11_0
       try clear hfz11_1
       try clear hfz12_0
       try clear hfz12_1
       try clear hfz5_0
       try clear hfz5_1
       try clear hx160_0
       try clear p160
       try clear p2
       try clear q160
       obtain ⟨x5_2, x6_2, rfl, HA, HK2, HO_5, BK159, HB⟩ := hrel
       cases gk with
       | zero => exact absurd HA.out (by simp [sobriquetref05_Unpack.l1])
       | succ k2 =>
        have H := HA.out
        clear HA
        simp only [sobriquetref05_Unpack.l1] at H
        by_cases c13 : x6_2 < 4352
        ·
         rw [if_pos c13] at H
         have c13b0 : decide (x6_2 < 4352) = true := decide_eq_true c13
         clear c13
         by_cases c14 : 0 ≤ x6_2
         ·
          rw [if_pos c14] at H
          have c14b0 : decide (0 ≤ x6_2) = true := decide_eq_true c14
          clear c14
          by_cases c15 : x6_2 < (l0_0.length : Int)
          ·
           rw [if_pos c15] at H
           have c15b0 : decide (x6_2 < (l0_0.length : Int)) = true := decide_eq_true c15
           clear c15
           replace H := Option.bind_eq_some_iff.mp H
           obtain ⟨t163, A160, H⟩ := H
           replace H : (if t163 = true then (sobriquetref05_Unpack.l2 k2 x5_2 x6_2 0 l0_0 l0_1) else (some (([] : List (S44)), false))) = some (r1, r2) := H
           have A16 := Aside0.mk A160
           clear A160
           by_cases c17 : t163 = true
           ·
            subst c17
            have H1 : (sobriquetref05_Unpack.l2 k2 x5_2 x6_2 0 l0_0 l0_1) = some (r1, r2) := by rw [if_pos rfl] at H; exact H
            clear H
            have H := H1
            clear H1
            have H' := Aside0.mk H
            clear H
            have hcz18_0 : wr.cell? ⟨gb159, 0, none⟩ = some (.slice A0_0 l0_0.length c0_0) := (blk_cell BK159.out 0).trans rfl
            have hcz18_1 : wr.cell? ⟨gb159, 1, none⟩ = some (.slice A0_1 l0_1.length c0_1) := (blk_cell BK159.out 1).trans rfl
            have hfz18_0 := blk_frozen BK159.out 0
            have hfz18_1 := blk_frozen BK159.out 1
            have p162 : 0 ≤ (x6_2 : Int) := of_decide_eq_true (by first | (with_reducible assumption) | assumption)
            have q162 : x6_2 < (l0_0.length : Int) := of_decide_eq_true (by first | (with_reducible assumption) | assumption)
            obtain ⟨ad162, e162, hx162_0⟩ := Kd.at_int HR0_0.out x6_2 p162 q162
            cases e162
            replace hx162_0 := (HB.out.cell (World.block_lt_of_cell? w _ hx162_0)).trans hx162_0
            replace p162 := eq_true p162
            replace q162 := eq_true q162
            go_wp2_with (first | (go_at_call 23; (with_reducible refine (sobriquetref05_in.calls (rd l0_0 x6_2) 0 (wrap64 ((wrap64 ((l0_1.length : Int) / 256)) - 1)) true _ A16.out).mono ?_); rintro e w' ⟨rfl, ⟨nd, rfl⟩⟩; (try first | exact ⟨rfl, _, World.drewN_drewN _ _ _⟩ | exact ⟨rfl, _, Eq.trans (World.drewN_drewN _ _ _) (congrArg (World.drewN _) (Nat.add_assoc _ _ _))⟩)))
            repeat (go_quiet (first | (go_at_call 23; (with_reducible refine (sobriquetref05_in.calls (rd l0_0 x6_2) 0 (wrap64 ((wrap64 ((l0_1.length : Int) / 256)) - 1)) true _ A16.out).mono ?_); rintro e w' ⟨rfl, ⟨nd, rfl⟩⟩; (try first | exact ⟨rfl, _, World.drewN_drewN _ _ _⟩ | exact ⟨rfl, _, Eq.trans (World.drewN_drewN _ _ _) (congrArg (World.drewN _) (Nat.add_assoc _ _ _))⟩))); try go_wp2_with (first | (go_at_call 23; (with_reducible refine (sobriquetref05_in.calls (rd l0_0 x6_2) 0 (wrap64 ((wrap64 ((l0_1.length : Int) / 256)) - 1)) true _ A16.out).mono ?_); rintro e w' ⟨rfl, ⟨nd, rfl⟩⟩; (try first | exact ⟨rfl, _, World.drewN_drewN _ _ _⟩ | exact ⟨rfl, _, Eq.trans (World.drewN_drewN _ _ _) (congrArg (World.drewN _) (Nat.add_assoc _ _ _))⟩))))
            go_loopg [5, 7] k2 (fun kq v5 v7 w' => ∃ (x5_3 : List (S44)) (x7_3 : Int), v7 = .int .i64 x7_3 ∧ Aside0 (sobriquetref05_Unpack.l2 kq x5_3 x6_2 x7_3 l0_0 l0_1 = some (r1, r2)) ∧ Aside0 (kq ≤ k2) ∧ Aside0 (Kd.R k44 44 w' w.heap.size (fun _ => True) v5 x5_3) ∧ Aside0 (w'.heap[gb159]? = some (.cells #[(.slice (some ad162) l0_0.length c0_0), (.slice A0_1 l0_1.length c0_1)] 25 (0, 0))) ∧ Aside0 (Below w.heap.size w w'))
            case atStart => exact ⟨(x5_2), (0), (by first | rfl | (simp; done) | (simp [*]; done)), H', ⟨Nat.le_refl _⟩, ⟨by (with_reducible repeat (first | apply Kd.R_alloc | apply Kd.R_drewN | apply Kd.R_drew)); exact HO_5.out⟩, ⟨by (with_reducible repeat (first | refine blk_drewN ?_ _ | refine blk_drew ?_ | refine blk_alloc ?_ _)); exact BK159.out⟩, ⟨by repeat (first | (with_reducible first | exact HB.out | apply below_alloc | apply pw_below_drewN | apply below_drew1 | refine below_set ?_ GE159.out) | exact HB.out)⟩⟩
            case round =>
             clear H'
             try clear c1
             try clear p1
             try clear q1
             try clear hx1
             try clear c2
             try clear c2b0
             try clear c2b1
             try clear p2
             try clear c3
             try clear c3b0
             try clear c3b1
             try clear c6
             try clear c6b0
             try clear p6
             try clear c7
             try clear c7b0
             try clear c9
             try clear c13
             try clear c13b0
             try clear c14
             try clear c14b0
             try clear c15
             try clear c15b0
             try clear p16
             try clear q16
             try clear hx16
             try clear c17
             try clear hcz10_0
             try clear hcz10_1
             try clear hcz11_0
             try clear hcz11_1
             try clear hcz12_0
             try clear hcz12_1
             try clear hcz18_0
             try clear hcz18_1
             try clear hcz5_0
             try clear hcz5_1
             try clear hfz10_0
             try clear hfz10_1
             try clear hfz11_0
             try clear hfz11_1
             try clear hfz12_0
             try clear hfz12_1
             try clear hfz18_0
             try clear hfz18_1
             try clear hfz5_0
             try clear hfz5_1
             try clear hx160_0
             try clear hx162_0
             try clear p1
             try clear p160
             try clear p162
             try clear p2
             try clear p6
             try clear q1
             try clear q160
             try clear q162
             obtain ⟨x5_3, x7_3, rfl, HA, HK3, HO_5, BK159, HB⟩ := hrel
             cases gk with
             | zero => exact absurd HA.out (by simp [sobriquetref05_Unpack.l2])
             | succ k3 =>
              have H := HA.out
              clear HA
              simp only [sobriquetref05_Unpack.l2] at H
              by_cases c19 : x7_3 < 256
              ·
               rw [if_pos c19] at H
               have c19b0 : decide (x7_3 < 256) = true := decide_eq_true c19
               clear c19
               by_cases c20 : 0 ≤ x6_2
               ·
                rw [if_pos c20] at H
                have c20b0 : decide (0 ≤ x6_2) = true := decide_eq_true c20
                clear c20
                by_cases c21 : x6_2 < (l0_0.length : Int)
                ·
                 rw [if_pos c21] at H
                 have c21b0 : decide (x6_2 < (l0_0.length : Int)) = true := decide_eq_true c21
                 clear c21
                 obtain ⟨ji22, hji22⟩ : ∃ j_ : Int, (wrap64 ((wrap64 (256 * (rd l0_0 x6_2))) + x7_3)) = j_ := ⟨_, rfl⟩
                 replace H : (if 0 ≤ (ji22) then (if (ji22) < (l0_1.length : Int) then (if (rd l0_1 (ji22)) = 0 then (sobriquetref05_Unpack.l2 k3 x5_3 x6_2 (wrap64 (x7_3 + 1)) l0_0 l0_1) else (if (x5_3.length : Int) > 0 then (if 0 ≤ (wrap64 ((x5_3.length : Int) - 1)) then (if (wrap64 ((x5_3.length : Int) - 1)) < (x5_3.length : Int) then (if ((rd_T44 x5_3 (wrap64 ((x5_3.length : Int) - 1))).f1) = (wrap64 ((wrap64 ((wrap64 (256 * x6_2)) + x7_3)) - 1)) then (if ((rd_T44 x5_3 (wrap64 ((x5_3.length : Int) - 1))).f2) = (rd l0_1 (ji22)) then ((some (x5_3.set ((wrap64 ((x5_3.length : Int) - 1)) : Int).toNat (⟨(rd_T44 x5_3 (wrap64 ((x5_3.length : Int) - 1))).f0, wrap64 ((wrap64 (256 * x6_2)) + x7_3), (rd_T44 x5_3 (wrap64 ((x5_3.length : Int) - 1))).f2⟩ : S44) : List (S44))).bind fun y168 => (if (x5_3.length : Int) > 2001 then (sobriquetref05_Unpack.l1 k3 y168 (wrap64 (x6_2 + 1)) l0_0 l0_1) else (sobriquetref05_Unpack.l2 k3 y168 x6_2 (wrap64 (x7_3 + 1)) l0_0 l0_1))) else (if x5_3.length < 5864062014805 then ((some (x5_3 ++ [(⟨wrap64 ((wrap64 (256 * x6_2)) + x7_3), wrap64 ((wrap64 (256 * x6_2)) + x7_3), rd l0_1 (ji22)⟩ : S44)] : List (S44))).bind fun y169 => (if (y169.length : Int) > 2001 then (sobriquetref05_Unpack.l1 k3 y169 (wrap64 (x6_2 + 1)) l0_0 l0_1) else (sobriquetref05_Unpack.l2 k3 y169 x6_2 (wrap64 (x7_3 + 1)) l0_0 l0_1))) else (none))) else (if x5_3.length < 5864062014805 then ((some (x5_3 ++ [(⟨wrap64 ((wrap64 (256 * x6_2)) + x7_3), wrap64 ((wrap64 (256 * x6_2)) + x7_3), rd l0_1 (ji22)⟩ : S44)] : List (S44))).bind fun y172 => (if (y172.length : Int) > 2001 then (sobriquetref05_Unpack.l1 k3 y172 (wrap64 (x6_2 + 1)) l0_0 l0_1) else (sobriquetref05_Unpack.l2 k3 y172 x6_2 (wrap64 (x7_3 + 1)) l0_0 l0_1))) else (none))) else (none)) else (none)) else (if x5_3.length < 5864062014805 then ((some (x5_3 ++ [(⟨wrap64 ((wrap64 (256 * x6_2)) + x7_3), wrap64 ((wrap64 (256 * x6_2)) + x7_3), rd l0_1 (ji22)⟩ : S44)] : List (S44))).bind fun y175 => (if (y175.length : Int) > 2001 then (sobriquetref05_Unpack.l1 k3 y175 (wrap64 (x6_2 + 1)) l0_0 l0_1) else (sobriquetref05_Unpack.l2 k3 y175 x6_2 (wrap64 (x7_3 + 1)) l0_0 l0_1))) else (none)))) else (none)) else (none)) = some (r1, r2) := by first | (rw [hji22] at H; exact H) | (simp only [hji22] at H ⊢; exact H)
                 have hji22w : (IntKind.i64.wrap ((wrap64 (256 * (rd l0_0 x6_2))) + x7_3)) = ji22 := (i64_w _).trans hji22
                 by_cases c23 : 0 ≤ (ji22)
                 ·
                  rw [if_pos c23] at H
                  have c23b0 : decide (0 ≤ (ji22)) = true := decide_eq_true c23
                  clear c23
                  by_cases c24 : (ji22) < (l0_1.length : Int)
                  ·
                   rw [if_pos c24] at H
                   have c24b0 : decide ((ji22) < (l0_1.length : Int)) = true := decide_eq_true c24
                   clear c24
                   by_cases c25 : (rd l0_1 (ji22)) = 0
                   ·
                    rw [if_pos c25] at H
                    have c25b0 : ((rd l0_1 (ji22)) == 0) = true := beq_iff_eq.mpr c25
                    have c25b1 : ((rd l0_1 (ji22)) != 0) = false := bne_eq_false_iff_eq.mpr c25
                    clear c25
                    have H' := Aside0.mk H
                    clear H
                    have hcz26_0 : wr.cell? ⟨gb159, 0, none⟩ = some (.slice (some ad162) l0_0.length c0_0) := (blk_cell BK159.out 0).trans rfl
                    have hcz26_1 : wr.cell? ⟨gb159, 1, none⟩ = some (.slice A0_1 l0_1.length c0_1) := (blk_cell BK159.out 1).trans rfl
                    have hfz26_0 := blk_frozen BK159.out 0
                    have hfz26_1 := blk_frozen BK159.out 1
                    have p164 : 0 ≤ (x6_2 : Int) := of_decide_eq_true (by first | (with_reducible assumption) | assumption)
                    have q164 : x6_2 < (l0_0.length : Int) := of_decide_eq_true (by first | (with_reducible assumption) | assumption)
                    obtain ⟨ad164, e164, hx164_0⟩ := Kd.at_int HR0_0.out x6_2 p164 q164
                    obtain rfl : ad162 = ad164 := (by injection e164)
                    replace hx164_0 := (HB.out.cell (World.block_lt_of_cell? w _ hx164_0)).trans hx164_0
                    replace p164 := eq_true p164
                    replace q164 := eq_true q164
                    have p165 : 0 ≤ ((ji22) : Int) := of_decide_eq_true (by first | (with_reducible assumption) | assumption)
                    have q165 : (ji22) < (l0_1.length : Int) := of_decide_eq_true (by first | (with_reducible assumption) | assumption)
                    obtain ⟨ad165, e165, hx165_0⟩ := Kd.at_int HR0_1.out (ji22) p165 q165
                    cases e165
                    replace hx165_0 := (HB.out.cell (World.block_lt_of_cell? w _ hx165_0)).trans hx165_0
                    replace p165 := eq_true p165
                    replace q165 := eq_true q165
                    go_wp2
                    repeat (go_quiet (fail); try go_wp2)
                    go_roundg k3
                    case measure => have := HK1.out; have := HK2.out; have := HK3.out; omega
                    case rel => exact ⟨(x5_3), (wrap64 (x7_3 + 1)), (by first | rfl | (simp; done) | (simp [*]; done)), H', ⟨by have := HK1.out; have := HK2.out; have := HK3.out; omega⟩, ⟨by (with_reducible repeat (first | apply Kd.R_alloc | apply Kd.R_drewN | apply Kd.R_drew)); exact HO_5.out⟩, ⟨by (with_reducible repeat (first | refine blk_drewN ?_ _ | refine blk_drew ?_ | refine blk_alloc ?_ _)); exact BK159.out⟩, ⟨by repeat (first | (with_reducible first | exact HB.out | apply below_alloc | apply pw_below_drewN | apply below_drew1 | refine below_set ?_ GE159.out) | exact HB.out)⟩⟩
                   ·
                    rw [if_neg c25] at H
                    have c25b0 : ((rd l0_1 (ji22)) == 0) = false := beq_eq_false_iff_ne.mpr c25
                    have c25b1 : ((rd l0_1 (ji22)) != 0) = true := bne_iff_ne.mpr c25
                    by_cases c27 : (x5_3.length : Int) > 0
                    ·
                     rw [if_pos c27] at H
                     have c27b0 : decide (0 < (x5_3.length : Int)) = true := decide_eq_true c27
                     have c27b1 : decide (0 < x5_3.length) = true := decide_eq_true (by omega)
                     clear c27
                     obtain ⟨ji28, hji28⟩ : ∃ j_ : Int, (wrap64 ((x5_3.length : Int) - 1)) = j_ := ⟨_, rfl⟩
                     replace H : (if 0 ≤ (ji28) then (if (ji28) < (x5_3.length : Int) then (if ((rd_T44 x5_3 (ji28)).f1) = (wrap64 ((wrap64 ((wrap64 (256 * x6_2)) + x7_3)) - 1)) then (if ((rd_T44 x5_3 (ji28)).f2) = (rd l0_1 (ji22)) then ((some (x5_3.set ((ji28) : Int).toNat (⟨(rd_T44 x5_3 (ji28)).f0, wrap64 ((wrap64 (256 * x6_2)) + x7_3), (rd_T44 x5_3 (ji28)).f2⟩ : S44) : List (S44))).bind fun y168 => (if (x5_3.length : Int) > 2001 then (sobriquetref05_Unpack.l1 k3 y168 (wrap64 (x6_2 + 1)) l0_0 l0_1) else (sobriquetref05_Unpack.l2 k3 y168 x6_2 (wrap64 (x7_3 + 1)) l0_0 l0_1))) else (if x5_3.length < 5864062014805 then ((some (x5_3 ++ [(⟨wrap64 ((wrap64 (256 * x6_2)) + x7_3), wrap64 ((wrap64 (256 * x6_2)) + x7_3), rd l0_1 (ji22)⟩ : S44)] : List (S44))).bind fun y169 => (if (y169.length : Int) > 2001 then (sobriquetref05_Unpack.l1 k3 y169 (wrap64 (x6_2 + 1)) l0_0 l0_1) else (sobriquetref05_Unpack.l2 k3 y169 x6_2 (wrap64 (x7_3 + 1)) l0_0 l0_1))) else (none))) else (if x5_3.length < 5864062014805 then ((some (x5_3 ++ [(⟨wrap64 ((wrap64 (256 * x6_2)) + x7_3), wrap64 ((wrap64 (256 * x6_2)) + x7_3), rd l0_1 (ji22)⟩ : S44)] : List (S44))).bind fun y172 => (if (y172.length : Int) > 2001 then (sobriquetref05_Unpack.l1 k3 y172 (wrap64 (x6_2 + 1)) l0_0 l0_1) else (sobriquetref05_Unpack.l2 k3 y172 x6_2 (wrap64 (x7_3 + 1)) l0_0 l0_1))) else (none))) else (none)) else (none)) = some (r1, r2) := by first | (rw [hji28] at H; exact H) | (simp only [hji28] at H ⊢; exact H)
                     have hji28w : (IntKind.i64.wrap ((x5_3.length : Int) - 1)) = ji28 := (i64_w _).trans hji28
                     by_cases c29 : 0 ≤ (ji28)
                     ·
                      rw [if_pos c29] at H
                      have c29b0 : decide (0 ≤ (ji28)) = true := decide_eq_true c29
                      clear c29
                      by_cases c30 : (ji28) < (x5_3.length : Int)
                      ·
                       rw [if_pos c30] at H
                       have c30b0 : decide ((ji28) < (x5_3.length : Int)) = true := decide_eq_true c30
                       clear c30
                       by_cases c31 : ((rd_T44 x5_3 (ji28)).f1) = (wrap64 ((wrap64 ((wrap64 (256 * x6_2)) + x7_3)) - 1))
                       ·
                        rw [if_pos c31] at H
                        have c31b0 : (((rd_T44 x5_3 (ji28)).f1) == (wrap64 ((wrap64 ((wrap64 (256 * x6_2)) + x7_3)) - 1))) = true := beq_iff_eq.mpr c31
                        have c31b1 : (((rd_T44 x5_3 (ji28)).f1) != (wrap64 ((wrap64 ((wrap64 (256 * x6_2)) + x7_3)) - 1))) = false := bne_eq_false_iff_eq.mpr c31
                        clear c31
                        by_cases c32 : ((rd_T44 x5_3 (ji28)).f2) = (rd l0_1 (ji22))
                        ·
                         rw [if_pos c32] at H
                         have c32b0 : (((rd_T44 x5_3 (ji28)).f2) == (rd l0_1 (ji22))) = true := beq_iff_eq.mpr c32
                         have c32b1 : (((rd_T44 x5_3 (ji28)).f2) != (rd l0_1 (ji22))) = false := bne_eq_false_iff_eq.mpr c32
                         clear c32
                         obtain ⟨y168, hy168⟩ : ∃ y_ : List (S44), y_ = (x5_3.set ((ji28) : Int).toNat (⟨(rd_T44 x5_3 (ji28)).f0, wrap64 ((wrap64 (256 * x6_2)) + x7_3), (rd_T44 x5_3 (ji28)).f2⟩ : S44)) := ⟨_, rfl⟩
                         replace H : (if (x5_3.length : Int) > 2001 then (sobriquetref05_Unpack.l1 k3 y168 (wrap64 (x6_2 + 1)) l0_0 l0_1) else (sobriquetref05_Unpack.l2 k3 y168 x6_2 (wrap64 (x7_3 + 1)) l0_0 l0_1)) = some (r1, r2) := by first | (rw [hy168]; with_reducible exact H) | (have H2_ := (Option.bind_some _ _).symm.trans H; rw [hy168]; with_reducible exact H2_) | (have H2_ := (Option.bind_some _ _).symm.trans H; with_reducible exact H2_) | with_reducible exact H | (rw [hy168]; exact H) | exact H
                         have Ny168 := Aside0.mk hy168
                         clear hy168
                         by_cases c34 : (x5_3.length : Int) > 2001
                         ·
                          rw [if_pos c34] at H
                          have c34b0 : decide (2001 < (x5_3.length : Int)) = true := decide_eq_true c34
                          have c34b1 : decide (2001 < x5_3.length) = true := decide_eq_true (by omega)
                          clear c34
                          have H' := Aside0.mk H
                          clear H
                          have hcz35_0 : wr.cell? ⟨gb159, 0, none⟩ = some (.slice (some ad162) l0_0.length c0_0) := (blk_cell BK159.out 0).trans rfl
                          have hcz35_1 : wr.cell? ⟨gb159, 1, none⟩ = some (.slice A0_1 l0_1.length c0_1) := (blk_cell BK159.out 1).trans rfl
                          have hfz35_0 := blk_frozen BK159.out 0
                          have hfz35_1 := blk_frozen BK159.out 1
                          have p164 : 0 ≤ (x6_2 : Int) := of_decide_eq_true (by first | (with_reducible assumption) | assumption)
                          have q164 : x6_2 < (l0_0.length : Int) := of_decide_eq_true (by first | (with_reducible assumption) | assumption)
                          obtain ⟨ad164, e164, hx164_0⟩ := Kd.at_int HR0_0.out x6_2 p164 q164
                          obtain rfl : ad162 = ad164 := (by injection e164)
                          replace hx164_0 := (HB.out.cell (World.block_lt_of_cell? w _ hx164_0)).trans hx164_0
                          replace p164 := eq_true p164
                          replace q164 := eq_true q164
                          have p165 : 0 ≤ ((ji22) : Int) := of_decide_eq_true (by first | (with_reducible assumption) | assumption)
                          have q165 : (ji22) < (l0_1.length : Int) := of_decide_eq_true (by first | (with_reducible assumption) | assumption)
                          obtain ⟨ad165, e165, hx165_0⟩ := Kd.at_int HR0_1.out (ji22) p165 q165
                          cases e165
                          replace hx165_0 := (HB.out.cell (World.block_lt_of_cell? w _ hx165_0)).trans hx165_0
                          replace p165 := eq_true p165
                          replace q165 := eq_true q165
                          obtain ⟨Ao36, co36, eo36⟩ := Kd.R_slice HO_5.out
                          subst eo36
                          have p166 : 0 ≤ ((ji28) : Int) := of_decide_eq_true (by first | (with_reducible assumption) | assumption)
                          have q166 : (ji28) < (x5_3.length : Int) := of_decide_eq_true (by first | (with_reducible assumption) | assumption)
                          obtain ⟨ad166, e166, hx166_0, hx166_1, hx166_2⟩ := at_T44 (Kd.R_reads' HO_5.out).2.2 (ji28) p166 q166
                          cases e166
                          replace p166 := eq_true p166
                          replace q166 := eq_true q166
                          have p167 : 0 ≤ ((ji28) : Int) := of_decide_eq_true (by first | (with_reducible assumption) | assumption)
                          have q167 : (ji28) < (x5_3.length : Int) := of_decide_eq_true (by first | (with_reducible assumption) | assumption)
                          obtain ⟨ad167, e167, hx167_0, hx167_1, hx167_2⟩ := at_T44 (Kd.R_reads' HO_5.out).2.2 (ji28) p167 q167
                          obtain rfl : ad166 = ad167 := (by injection e167)
                          replace p167 := eq_true p167
                          replace q167 := eq_true q167
                          have p33 : 0 ≤ ((ji28) : Int) := of_decide_eq_true (by first | (with_reducible assumption) | assumption)
                          have q33 : ((ji28) : Int) < ((x5_3.length : Int) : Int) := of_decide_eq_true (by first | (with_reducible assumption) | assumption)
                          obtain ⟨go33, co33, eo33, gb33, gl33, cl33, HG33⟩ := Kd.R_form HO_5.out (by omega)
                          (first | cases eo33 | (injection eo33 with ea_ en_ ec_; (first | subst ea_ | (injection ea_ with ea_; subst ea_)); subst ec_; clear en_))
                          have GB33 := Aside0.mk gb33
                          have GG33 := Aside0.mk HG33
                          clear gb33 gl33 HG33
                          (first | simp only [add_plain] at hx166_0 | skip)
                          (first | simp only [add_plain] at hx166_1 | skip)
                          (first | simp only [add_plain] at hx166_2 | skip)
                          (first | simp only [add_plain] at hx167_0 | skip)
                          (first | simp only [add_plain] at hx167_1 | skip)
                          (first | simp only [add_plain] at hx167_2 | skip)
                          obtain ⟨ce33, hcl33, hM33, hcc33, hfr33⟩ := Kd.R_elem HO_5.out z44 ((ji28) : Int) p33 q33
                          obtain rfl := k44_openM hM33
                          have hx33_0 : wr.cell? ⟨go33, ((ji28) : Int).toNat * 3, none⟩ = some (.int .i64 ((rd_T44 x5_3 (ji28)).f0)) := hcc33 0 _ rfl
                          have hx33_1 : wr.cell? ⟨go33, ((ji28) : Int).toNat * 3 + 1, none⟩ = some (.int .i64 ((rd_T44 x5_3 (ji28)).f1)) := hcc33 1 _ rfl
                          have hx33_2 : wr.cell? ⟨go33, ((ji28) : Int).toNat * 3 + 2, none⟩ = some (.int .i64 ((rd_T44 x5_3 (ji28)).f2)) := hcc33 2 _ rfl
                          have hf33_0 : wr.frozen? ⟨go33, ((ji28) : Int).toNat * 3, none⟩ = false := hfr33 0
                          have hf33_1 : wr.frozen? ⟨go33, ((ji28) : Int).toNat * 3 + 1, none⟩ = false := hfr33 1
                          have hf33_2 : wr.frozen? ⟨go33, ((ji28) : Int).toNat * 3 + 2, none⟩ = false := hfr33 2
                          clear hcl33 hcc33 hfr33 hM33
                          replace p33 := eq_true p33
                          replace q33 := eq_true q33
                          have HX37 := Aside0.mk (show Kd.R k44 44 wr w.heap.size (fun _ => True) (.slice (some ⟨go33, 0, none⟩) x5_3.length co36) x5_3 from (by (with_reducible repeat (first | apply Kd.R_alloc | apply Kd.R_drewN | apply Kd.R_drew)); exact HO_5.out))
                          obtain ⟨ce37, hcl37, hM37, hcc37, hfr37⟩ := Kd.R_elem HX37.out z44 ((ji28) : Int) (of_decide_eq_true (by first | (with_reducible assumption) | assumption)) (by have h_ : ((ji28) : Int) < ((x5_3.length : Int) : Int) := of_decide_eq_true (by first | (with_reducible assumption) | assumption); first | exact h_ | (have e_ := (Kd.R_reads' HO_5.out).1; omega) | simpa using h_)
                          obtain rfl := k44_openM hM37
                          have HP37 := Kd.R_seg HX37.out ((ji28) : Int) (of_decide_eq_true (by first | (with_reducible assumption) | assumption)) (by have h_ : ((ji28) : Int) < ((x5_3.length : Int) : Int) := of_decide_eq_true (by first | (with_reducible assumption) | assumption); first | exact h_ | (have e_ := (Kd.R_reads' HO_5.out).1; omega) | simpa using h_) (seg := [.int .i64 (wrap64 ((wrap64 (256 * x6_2)) + x7_3))]) (j := 1) hcl37 hcc37 (show 2 ≤ 3 from by decide) (x' := (⟨(rd_T44 x5_3 (ji28)).f0, wrap64 ((wrap64 (256 * x6_2)) + x7_3), (rd_T44 x5_3 (ji28)).f2⟩ : S44)) (k44_mkM _ _ _ (⟨(rd_T44 x5_3 (ji28)).f0, wrap64 ((wrap64 (256 * x6_2)) + x7_3), (rd_T44 x5_3 (ji28)).f2⟩ : S44) ) (fun _ hk => hk)
                          have hx37_1 := hcc37 1 _ rfl
                          (try simp only [show (k44).sz = 3 from rfl, Nat.mul_one, Nat.add_zero] at hx37_1)
                          have hf37_1 := hfr37 1
                          (try simp only [show (k44).sz = 3 from rfl, Nat.mul_one, Nat.add_zero] at hf37_1)
                          clear hcl37 hcc37 hfr37 hM37
                          go_wp2_with (first | ((with_reducible refine gate_store (t := 3) (p := 104) rfl ?_); (try (rw [drewN_self wr]; generalize hq_ : World.drewN wr _ = wr; have n0_ := Aside0.mk (Kd.R_at hq_ HO_5.out); have n1_ := Aside0.mk (blk_at hq_ BK159.out); have n2_ := Aside0.mk (below_at hq_ HB.out); clear hq_ HO_5 BK159 HB; have HO_5 := n0_; have BK159 := n1_; have HB := n2_; clear n0_ n1_ n2_; (try (have HX37 := Aside0.mk (show Kd.R k44 44 wr w.heap.size (fun _ => True) (.slice (some ⟨go33, 0, none⟩) x5_3.length co36) x5_3 from (by (with_reducible repeat (first | apply Kd.R_alloc | apply Kd.R_drewN | apply Kd.R_drew)); exact HO_5.out)))); (try (obtain ⟨ce37, hcl37, hM37, hcc37, hfr37⟩ := Kd.R_elem HX37.out z44 ((ji28) : Int) (of_decide_eq_true (by first | (with_reducible assumption) | assumption)) (by have h_ : ((ji28) : Int) < ((x5_3.length : Int) : Int) := of_decide_eq_true (by first | (with_reducible assumption) | assumption); first | exact h_ | (have e_ := (Kd.R_reads' HO_5.out).1; omega) | simpa using h_))); (try (obtain rfl := k44_openM hM37)); (try (have HP37 := Kd.R_seg HX37.out ((ji28) : Int) (of_decide_eq_true (by first | (with_reducible assumption) | assumption)) (by have h_ : ((ji28) : Int) < ((x5_3.length : Int) : Int) := of_decide_eq_true (by first | (with_reducible assumption) | assumption); first | exact h_ | (have e_ := (Kd.R_reads' HO_5.out).1; omega) | simpa using h_) (seg := [.int .i64 (wrap64 ((wrap64 (256 * x6_2)) + x7_3))]) (j := 1) hcl37 hcc37 (show 2 ≤ 3 from by decide) (x' := (⟨(rd_T44 x5_3 (ji28)).f0, wrap64 ((wrap64 (256 * x6_2)) + x7_3), (rd_T44 x5_3 (ji28)).f2⟩ : S44)) (k44_mkM _ _ _ (⟨(rd_T44 x5_3 (ji28)).f0, wrap64 ((wrap64 (256 * x6_2)) + x7_3), (rd_T44 x5_3 (ji28)).f2⟩ : S44) ) (fun _ hk => hk))); (try (have hx37_1 := hcc37 1 _ rfl)); (try (try simp only [show (k44).sz = 3 from rfl, Nat.mul_one, Nat.add_zero] at hx37_1)); (try (have hf37_1 := hfr37 1)); (try (try simp only [show (k44).sz = 3 from rfl, Nat.mul_one, Nat.add_zero] at hf37_1)); (try (clear hcl37 hcc37 hfr37 hM37)))); refine store_event (t := 3) (p := 104) (v := ?vo_w38) (w1 := (wr.setCell ⟨go33, ((ji28) : Int).toNat * 3 + 1, none⟩ (.int .i64 (wrap64 ((wrap64 (256 * x6_2)) + x7_3))))) ?hg ?ho ?hn ?hr ?_; (case ho => rfl); (case hg => rfl); (case hn => rfl); (case hr => first | (go_simp; done) | (go_simp; rfl)); intro w38 hw; have hg : wr.grownBy w38 (some go33) := (by rw [hw]; exact HP37.2); have hp_ : Kd.R k44 44 w38 w.heap.size (fun _ => True) (.slice (some ⟨go33, 0, none⟩) x5_3.length co36) y168 := (by rw [hw, Ny168.out]; exact HP37.1); clear HP37; have n0_ := Aside0.mk (hp_); have n1_ := Aside0.mk (blk_grown (g := gb159) (o := .cells #[.slice (some ad162) l0_0.length c0_0, .slice (some ad165) l0_1.length c0_1] 25 (0, 0)) (by (with_reducible repeat (first | refine blk_drewN ?_ _ | refine blk_drew ?_ | refine blk_alloc ?_ _)); exact BK159.out) hg (Kd.R_ne HO_5.out BK159.out (by decide))); have n2_ := Aside0.mk ((by rw [hw]; exact below_set (HB.out) GB33.out : Below w.heap.size w w38)); clear HO_5; clear BK159; clear HB; have HO_5 := n0_; have BK159 := n1_; have HB := n2_; clear n0_ n1_ n2_; clear hg hw hp_))
                          repeat (go_quiet (first | ((with_reducible refine gate_store (t := 3) (p := 104) rfl ?_); (try (rw [drewN_self wr]; generalize hq_ : World.drewN wr _ = wr; have n0_ := Aside0.mk (Kd.R_at hq_ HO_5.out); have n1_ := Aside0.mk (blk_at hq_ BK159.out); have n2_ := Aside0.mk (below_at hq_ HB.out); clear hq_ HO_5 BK159 HB; have HO_5 := n0_; have BK159 := n1_; have HB := n2_; clear n0_ n1_ n2_; (try (have HX37 := Aside0.mk (show Kd.R k44 44 wr w.heap.size (fun _ => True) (.slice (some ⟨go33, 0, none⟩) x5_3.length co36) x5_3 from (by (with_reducible repeat (first | apply Kd.R_alloc | apply Kd.R_drewN | apply Kd.R_drew)); exact HO_5.out)))); (try (obtain ⟨ce37, hcl37, hM37, hcc37, hfr37⟩ := Kd.R_elem HX37.out z44 ((ji28) : Int) (of_decide_eq_true (by first | (with_reducible assumption) | assumption)) (by have h_ : ((ji28) : Int) < ((x5_3.length : Int) : Int) := of_decide_eq_true (by first | (with_reducible assumption) | assumption); first | exact h_ | (have e_ := (Kd.R_reads' HO_5.out).1; omega) | simpa using h_))); (try (obtain rfl := k44_openM hM37)); (try (have HP37 := Kd.R_seg HX37.out ((ji28) : Int) (of_decide_eq_true (by first | (with_reducible assumption) | assumption)) (by have h_ : ((ji28) : Int) < ((x5_3.length : Int) : Int) := of_decide_eq_true (by first | (with_reducible assumption) | assumption); first | exact h_ | (have e_ := (Kd.R_reads' HO_5.out).1; omega) | simpa using h_) (seg := [.int .i64 (wrap64 ((wrap64 (256 * x6_2)) + x7_3))]) (j := 1) hcl37 hcc37 (show 2 ≤ 3 from by decide) (x' := (⟨(rd_T44 x5_3 (ji28)).f0, wrap64 ((wrap64 (256 * x6_2)) + x7_3), (rd_T44 x5_3 (ji28)).f2⟩ : S44)) (k44_mkM _ _ _ (⟨(rd_T44 x5_3 (ji28)).f0, wrap64 ((wrap64 (256 * x6_2)) + x7_3), (rd_T44 x5_3 (ji28)).f2⟩ : S44) ) (fun _ hk => hk))); (try (have hx37_1 := hcc37 1 _ rfl)); (try (try simp only [show (k44).sz = 3 from rfl, Nat.mul_one, Nat.add_zero] at hx37_1)); (try (have hf37_1 := hfr37 1)); (try (try simp only [show (k44).sz = 3 from rfl, Nat.mul_one, Nat.add_zero] at hf37_1)); (try (clear hcl37 hcc37 hfr37 hM37)))); refine store_event (t := 3) (p := 104) (v := ?vo_w38) (w1 := (wr.setCell ⟨go33, ((ji28) : Int).toNat * 3 + 1, none⟩ (.int .i64 (wrap64 ((wrap64 (256 * x6_2)) + x7_3))))) ?hg ?ho ?hn ?hr ?_; (case ho => rfl); (case hg => rfl); (case hn => rfl); (case hr => first | (go_simp; done) | (go_simp; rfl)); intro w38 hw; have hg : wr.grownBy w38 (some go33) := (by rw [hw]; exact HP37.2); have hp_ : Kd.R k44 44 w38 w.heap.size (fun _ => True) (.slice (some ⟨go33, 0, none⟩) x5_3.length co36) y168 := (by rw [hw, Ny168.out]; exact HP37.1); clear HP37; have n0_ := Aside0.mk (hp_); have n1_ := Aside0.mk (blk_grown (g := gb159) (o := .cells #[.slice (some ad162) l0_0.length c0_0, .slice (some ad165) l0_1.length c0_1] 25 (0, 0)) (by (with_reducible repeat (first | refine blk_drewN ?_ _ | refine blk_drew ?_ | refine blk_alloc ?_ _)); exact BK159.out) hg (Kd.R_ne HO_5.out BK159.out (by decide))); have n2_ := Aside0.mk ((by rw [hw]; exact below_set (HB.out) GB33.out : Below w.heap.size w w38)); clear HO_5; clear BK159; clear HB; have HO_5 := n0_; have BK159 := n1_; have HB := n2_; clear n0_ n1_ n2_; clear hg hw hp_)); try go_wp2_with (first | ((with_reducible refine gate_store (t := 3) (p := 104) rfl ?_); (try (rw [drewN_self wr]; generalize hq_ : World.drewN wr _ = wr; have n0_ := Aside0.mk (Kd.R_at hq_ HO_5.out); have n1_ := Aside0.mk (blk_at hq_ BK159.out); have n2_ := Aside0.mk (below_at hq_ HB.out); clear hq_ HO_5 BK159 HB; have HO_5 := n0_; have BK159 := n1_; have HB := n2_; clear n0_ n1_ n2_; (try (have HX37 := Aside0.mk (show Kd.R k44 44 wr w.heap.size (fun _ => True) (.slice (some ⟨go33, 0, none⟩) x5_3.length co36) x5_3 from (by (with_reducible repeat (first | apply Kd.R_alloc | apply Kd.R_drewN | apply Kd.R_drew)); exact HO_5.out)))); (try (obtain ⟨ce37, hcl37, hM37, hcc37, hfr37⟩ := Kd.R_elem HX37.out z44 ((ji28) : Int) (of_decide_eq_true (by first | (with_reducible assumption) | assumption)) (by have h_ : ((ji28) : Int) < ((x5_3.length : Int) : Int) := of_decide_eq_true (by first | (with_reducible assumption) | assumption); first | exact h_ | (have e_ := (Kd.R_reads' HO_5.out).1; omega) | simpa using h_))); (try (obtain rfl := k44_openM hM37)); (try (have HP37 := Kd.R_seg HX37.out ((ji28) : Int) (of_decide_eq_true (by first | (with_reducible assumption) | assumption)) (by have h_ : ((ji28) : Int) < ((x5_3.length : Int) : Int) := of_decide_eq_true (by first | (with_reducible assumption) | assumption); first | exact h_ | (have e_ := (Kd.R_reads' HO_5.out).1; omega) | simpa using h_) (seg := [.int .i64 (wrap64 ((wrap64 (256 * x6_2)) + x7_3))]) (j := 1) hcl37 hcc37 (show 2 ≤ 3 from by decide) (x' := (⟨(rd_T44 x5_3 (ji28)).f0, wrap64 ((wrap64 (256 * x6_2)) + x7_3), (rd_T44 x5_3 (ji28)).f2⟩ : S44)) (k44_mkM _ _ _ (⟨(rd_T44 x5_3 (ji28)).f0, wrap64 ((wrap64 (256 * x6_2)) + x7_3), (rd_T44 x5_3 (ji28)).f2⟩ : S44) ) (fun _ hk => hk))); (try (have hx37_1 := hcc37 1 _ rfl)); (try (try simp only [show (k44).sz = 3 from rfl, Nat.mul_one, Nat.add_zero] at hx37_1)); (try (have hf37_1 := hfr37 1)); (try (try simp only [show (k44).sz = 3 from rfl, Nat.mul_one, Nat.add_zero] at hf37_1)); (try (clear hcl37 hcc37 hfr37 hM37)))); refine store_event (t := 3) (p := 104) (v := ?vo_w38) (w1 := (wr.setCell ⟨go33, ((ji28) : Int).toNat * 3 + 1, none⟩ (.int .i64 (wrap64 ((wrap64 (256 * x6_2)) + x7_3))))) ?hg ?ho ?hn ?hr ?_; (case ho => rfl); (case hg => rfl); (case hn => rfl); (case hr => first | (go_simp; done) | (go_simp; rfl)); intro w38 hw; have hg : wr.grownBy w38 (some go33) := (by rw [hw]; exact HP37.2); have hp_ : Kd.R k44 44 w38 w.heap.size (fun _ => True) (.slice (some ⟨go33, 0, none⟩) x5_3.length co36) y168 := (by rw [hw, Ny168.out]; exact HP37.1); clear HP37; have n0_ := Aside0.mk (hp_); have n1_ := Aside0.mk (blk_grown (g := gb159) (o := .cells #[.slice (some ad162) l0_0.length c0_0, .slice (some ad165) l0_1.length c0_1] 25 (0, 0)) (by (with_reducible repeat (first | refine blk_drewN ?_ _ | refine blk_drew ?_ | refine blk_alloc ?_ _)); exact BK159.out) hg (Kd.R_ne HO_5.out BK159.out (by decide))); have n2_ := Aside0.mk ((by rw [hw]; exact below_set (HB.out) GB33.out : Below w.heap.size w w38)); clear HO_5; clear BK159; clear HB; have HO_5 := n0_; have BK159 := n1_; have HB := n2_; clear n0_ n1_ n2_; clear hg hw hp_)))
                          go_roundg k3
                          case measure => have := HK1.out; have := HK2.out; have := HK3.out; omega
                          case rel => exact ⟨(y168), (wrap64 (x6_2 + 1)), (by first | rfl | (simp; done) | (simp [*]; done)), H', ⟨by have := HK1.out; have := HK2.out; have := HK3.out; omega⟩, ⟨by (with_reducible repeat (first | apply Kd.R_alloc | apply Kd.R_drewN | apply Kd.R_drew)); exact HO_5.out⟩, ⟨by (with_reducible repeat (first | refine blk_drewN ?_ _ | refine blk_drew ?_ | refine blk_alloc ?_ _)); exact BK159.out⟩, ⟨by repeat (first | (with_reducible first | exact HB.out | apply below_alloc | apply pw_below_drewN | apply below_drew1 | refine below_set ?_ GE159.out) | exact HB.out)⟩⟩
                         ·
                          rw [if_neg c34] at H
                          have c34b0 : decide (2001 < (x5_3.length : Int)) = false := decide_eq_false c34
                          have c34b1 : decide (2001 < x5_3.length) = false := decide_eq_false (by omega)
                          clear c34
                          have H' := Aside0.mk H
                          clear H
                          have hcz39_0 : wr.cell? ⟨gb159, 0, none⟩ = some (.slice (some ad162) l0_0.length c0_0) := (blk_cell BK159.out 0).trans rfl
                          have hcz39_1 : wr.cell? ⟨gb159, 1, none⟩ = some (.slice A0_1 l0_1.length c0_1) := (blk_cell BK159.out 1).trans rfl
                          have hfz39_0 := blk_frozen BK159.out 0
                          have hfz39_1 := blk_frozen BK159.out 1
                          have p164 : 0 ≤ (x6_2 : Int) := of_decide_eq_true (by first | (with_reducible assumption) | assumption)
                          have q164 : x6_2 < (l0_0.length : Int) := of_decide_eq_true (by first | (with_reducible assumption) | assumption)
                          obtain ⟨ad164, e164, hx164_0⟩ := Kd.at_int HR0_0.out x6_2 p164 q164
                          obtain rfl : ad162 = ad164 := (by injection e164)
                          replace hx164_0 := (HB.out.cell (World.block_lt_of_cell? w _ hx164_0)).trans hx164_0
                          replace p164 := eq_true p164
                          replace q164 := eq_true q164
                          have p165 : 0 ≤ ((ji22) : Int) := of_decide_eq_true (by first | (with_reducible assumption) | assumption)
                          have q165 : (ji22) < (l0_1.length : Int) := of_decide_eq_true (by first | (with_reducible assumption) | assumption)
                          obtain ⟨ad165, e165, hx165_0⟩ := Kd.at_int HR0_1.out (ji22) p165 q165
                          cases e165
                          replace hx165_0 := (HB.out.cell (World.block_lt_of_cell? w _ hx165_0)).trans hx165_0
                          replace p165 := eq_true p165
                          replace q165 := eq_true q165
                          obtain ⟨Ao40, co40, eo40⟩ := Kd.R_slice HO_5.out
                          subst eo40
                          have p166 : 0 ≤ ((ji28) : Int) := of_decide_eq_true (by first | (with_reducible assumption) | assumption)
                          have q166 : (ji28) < (x5_3.length : Int) := of_decide_eq_true (by first | (with_reducible assumption) | assumption)
                          obtain ⟨ad166, e166, hx166_0, hx166_1, hx166_2⟩ := at_T44 (Kd.R_reads' HO_5.out).2.2 (ji28) p166 q166
                          cases e166
                          replace p166 := eq_true p166
                          replace q166 := eq_true q166
                          have p167 : 0 ≤ ((ji28) : Int) := of_decide_eq_true (by first | (with_reducible assumption) | assumption)
                          have q167 : (ji28) < (x5_3.length : Int) := of_decide_eq_true (by first | (with_reducible assumption) | assumption)
                          obtain ⟨ad167, e167, hx167_0, hx167_1, hx167_2⟩ := at_T44 (Kd.R_reads' HO_5.out).2.2 (ji28) p167 q167
                          obtain rfl : ad166 = ad167 := (by injection e167)
                          replace p167 := eq_true p167
                          replace q167 := eq_true q167
                          have p33 : 0 ≤ ((ji28) : Int) := of_decide_eq_true (by first | (with_reducible assumption) | assumption)
                          have q33 : ((ji28) : Int) < ((x5_3.length : Int) : Int) := of_decide_eq_true (by first | (with_reducible assumption) | assumption)
                          obtain ⟨go33, co33, eo33, gb33, gl33, cl33, HG33⟩ := Kd.R_form HO_5.out (by omega)
                          (first | cases eo33 | (injection eo33 with ea_ en_ ec_; (first | subst ea_ | (injection ea_ with ea_; subst ea_)); subst ec_; clear en_))
                          have GB33 := Aside0.mk gb33
                          have GG33 := Aside0.mk HG33
                          clear gb33 gl33 HG33
                          (first | simp only [add_plain] at hx166_0 | skip)
                          (first | simp only [add_plain] at hx166_1 | skip)
                          (first | simp only [add_plain] at hx166_2 | skip)
                          (first | simp only [add_plain] at hx167_0 | skip)
                          (first | simp only [add_plain] at hx167_1 | skip)
                          (first | simp only [add_plain] at hx167_2 | skip)
                          obtain ⟨ce33, hcl33, hM33, hcc33, hfr33⟩ := Kd.R_elem HO_5.out z44 ((ji28) : Int) p33 q33
                          obtain rfl := k44_openM hM33
                          have hx33_0 : wr.cell? ⟨go33, ((ji28) : Int).toNat * 3, none⟩ = some (.int .i64 ((rd_T44 x5_3 (ji28)).f0)) := hcc33 0 _ rfl
                          have hx33_1 : wr.cell? ⟨go33, ((ji28) : Int).toNat * 3 + 1, none⟩ = some (.int .i64 ((rd_T44 x5_3 (ji28)).f1)) := hcc33 1 _ rfl
                          have hx33_2 : wr.cell? ⟨go33, ((ji28) : Int).toNat * 3 + 2, none⟩ = some (.int .i64 ((rd_T44 x5_3 (ji28)).f2)) := hcc33 2 _ rfl
                          have hf33_0 : wr.frozen? ⟨go33, ((ji28) : Int).toNat * 3, none⟩ = false := hfr33 0
                          have hf33_1 : wr.frozen? ⟨go33, ((ji28) : Int).toNat * 3 + 1, none⟩ = false := hfr33 1
                          have hf33_2 : wr.frozen? ⟨go33, ((ji28) : Int).toNat * 3 + 2, none⟩ = false := hfr33 2
                          clear hcl33 hcc33 hfr33 hM33
                          replace p33 := eq_true p33
                          replace q33 := eq_true q33
                          have HX41 := Aside0.mk (show Kd.R k44 44 wr w.heap.size (fun _ => True) (.slice (some ⟨go33, 0, none⟩) x5_3.length co40) x5_3 from (by (with_reducible repeat (first | apply Kd.R_alloc | apply Kd.R_drewN | apply Kd.R_drew)); exact HO_5.out))
                          obtain ⟨ce41, hcl41, hM41, hcc41, hfr41⟩ := Kd.R_elem HX41.out z44 ((ji28) : Int) (of_decide_eq_true (by first | (with_reducible assumption) | assumption)) (by have h_ : ((ji28) : Int) < ((x5_3.length : Int) : Int) := of_decide_eq_true (by first | (with_reducible assumption) | assumption); first | exact h_ | (have e_ := (Kd.R_reads' HO_5.out).1; omega) | simpa using h_)
                          obtain rfl := k44_openM hM41
                          have HP41 := Kd.R_seg HX41.out ((ji28) : Int) (of_decide_eq_true (by first | (with_reducible assumption) | assumption)) (by have h_ : ((ji28) : Int) < ((x5_3.length : Int) : Int) := of_decide_eq_true (by first | (with_reducible assumption) | assumption); first | exact h_ | (have e_ := (Kd.R_reads' HO_5.out).1; omega) | simpa using h_) (seg := [.int .i64 (wrap64 ((wrap64 (256 * x6_2)) + x7_3))]) (j := 1) hcl41 hcc41 (show 2 ≤ 3 from by decide) (x' := (⟨(rd_T44 x5_3 (ji28)).f0, wrap64 ((wrap64 (256 * x6_2)) + x7_3), (rd_T44 x5_3 (ji28)).f2⟩ : S44)) (k44_mkM _ _ _ (⟨(rd_T44 x5_3 (ji28)).f0, wrap64 ((wrap64 (256 * x6_2)) + x7_3), (rd_T44 x5_3 (ji28)).f2⟩ : S44) ) (fun _ hk => hk)
                          have hx41_1 := hcc41 1 _ rfl
                          (try simp only [show (k44).sz = 3 from rfl, Nat.mul_one, Nat.add_zero] at hx41_1)
                          have hf41_1 := hfr41 1
                          (try simp only [show (k44).sz = 3 from rfl, Nat.mul_one, Nat.add_zero] at hf41_1)
                          clear hcl41 hcc41 hfr41 hM41
                          go_wp2_with (first | ((with_reducible refine gate_store (t := 3) (p := 104) rfl ?_); (try (rw [drewN_self wr]; generalize hq_ : World.drewN wr _ = wr; have n0_ := Aside0.mk (Kd.R_at hq_ HO_5.out); have n1_ := Aside0.mk (blk_at hq_ BK159.out); have n2_ := Aside0.mk (below_at hq_ HB.out); clear hq_ HO_5 BK159 HB; have HO_5 := n0_; have BK159 := n1_; have HB := n2_; clear n0_ n1_ n2_; (try (have HX41 := Aside0.mk (show Kd.R k44 44 wr w.heap.size (fun _ => True) (.slice (some ⟨go33, 0, none⟩) x5_3.length co40) x5_3 from (by (with_reducible repeat (first | apply Kd.R_alloc | apply Kd.R_drewN | apply Kd.R_drew)); exact HO_5.out)))); (try (obtain ⟨ce41, hcl41, hM41, hcc41, hfr41⟩ := Kd.R_elem HX41.out z44 ((ji28) : Int) (of_decide_eq_true (by first | (with_reducible assumption) | assumption)) (by have h_ : ((ji28) : Int) < ((x5_3.length : Int) : Int) := of_decide_eq_true (by first | (with_reducible assumption) | assumption); first | exact h_ | (have e_ := (Kd.R_reads' HO_5.out).1; omega) | simpa using h_))); (try (obtain rfl := k44_openM hM41)); (try (have HP41 := Kd.R_seg HX41.out ((ji28) : Int) (of_decide_eq_true (by first | (with_reducible assumption) | assumption)) (by have h_ : ((ji28) : Int) < ((x5_3.length : Int) : Int) := of_decide_eq_true (by first | (with_reducible assumption) | assumption); first | exact h_ | (have e_ := (Kd.R_reads' HO_5.out).1; omega) | simpa using h_) (seg := [.int .i64 (wrap64 ((wrap64 (256 * x6_2)) + x7_3))]) (j := 1) hcl41 hcc41 (show 2 ≤ 3 from by decide) (x' := (⟨(rd_T44 x5_3 (ji28)).f0, wrap64 ((wrap64 (256 * x6_2)) + x7_3), (rd_T44 x5_3 (ji28)).f2⟩ : S44)) (k44_mkM _ _ _ (⟨(rd_T44 x5_3 (ji28)).f0, wrap64 ((wrap64 (256 * x6_2)) + x7_3), (rd_T44 x5_3 (ji28)).f2⟩ : S44) ) (fun _ hk => hk))); (try (have hx41_1 := hcc41 1 _ rfl)); (try (try simp only [show (k44).sz = 3 from rfl, Nat.mul_one, Nat.add_zero] at hx41_1)); (try (have hf41_1 := hfr41 1)); (try (try simp only [show (k44).sz = 3 from rfl, Nat.mul_one, Nat.add_zero] at hf41_1)); (try (clear hcl41 hcc41 hfr41 hM41)))); refine store_event (t := 3) (p := 104) (v := ?vo_w42) (w1 := (wr.setCell ⟨go33, ((ji28) : Int).toNat * 3 + 1, none⟩ (.int .i64 (wrap64 ((wrap64 (256 * x6_2)) + x7_3))))) ?hg ?ho ?hn ?hr ?_; (case ho => rfl); (case hg => rfl); (case hn => rfl); (case hr => first | (go_simp; done) | (go_simp; rfl)); intro w42 hw; have hg : wr.grownBy w42 (some go33) := (by rw [hw]; exact HP41.2); have hp_ : Kd.R k44 44 w42 w.heap.size (fun _ => True) (.slice (some ⟨go33, 0, none⟩) x5_3.length co40) y168 := (by rw [hw, Ny168.out]; exact HP41.1); clear HP41; have n0_ := Aside0.mk (hp_); have n1_ := Aside0.mk (blk_grown (g := gb159) (o := .cells #[.slice (some ad162) l0_0.length c0_0, .slice (some ad165) l0_1.length c0_1] 25 (0, 0)) (by (with_reducible repeat (first | refine blk_drewN ?_ _ | refine blk_drew ?_ | refine blk_alloc ?_ _)); exact BK159.out) hg (Kd.R_ne HO_5.out BK159.out (by decide))); have n2_ := Aside0.mk ((by rw [hw]; exact below_set (HB.out) GB33.out : Below w.heap.size w w42)); clear HO_5; clear BK159; clear HB; have HO_5 := n0_; have BK159 := n1_; have HB := n2_; clear n0_ n1_ n2_; clear hg hw hp_))
                          repeat (go_quiet (first | ((with_reducible refine gate_store (t := 3) (p := 104) rfl ?_); (try (rw [drewN_self wr]; generalize hq_ : World.drewN wr _ = wr; have n0_ := Aside0.mk (Kd.R_at hq_ HO_5.out); have n1_ := Aside0.mk (blk_at hq_ BK159.out); have n2_ := Aside0.mk (below_at hq_ HB.out); clear hq_ HO_5 BK159 HB; have HO_5 := n0_; have BK159 := n1_; have HB := n2_; clear n0_ n1_ n2_; (try (have HX41 := Aside0.mk (show Kd.R k44 44 wr w.heap.size (fun _ => True) (.slice (some ⟨go33, 0, none⟩) x5_3.length co40) x5_3 from (by (with_reducible repeat (first | apply Kd.R_alloc | apply Kd.R_drewN | apply Kd.R_drew)); exact HO_5.out)))); (try (obtain ⟨ce41, hcl41, hM41, hcc41, hfr41⟩ := Kd.R_elem HX41.out z44 ((ji28) : Int) (of_decide_eq_true (by first | (with_reducible assumption) | assumption)) (by have h_ : ((ji28) : Int) < ((x5_3.length : Int) : Int) := of_decide_eq_true (by first | (with_reducible assumption) | assumption); first | exact h_ | (have e_ := (Kd.R_reads' HO_5.out).1; omega) | simpa using h_))); (try (obtain rfl := k44_openM hM41)); (try (have HP41 := Kd.R_seg HX41.out ((ji28) : Int) (of_decide_eq_true (by first | (with_reducible assumption) | assumption)) (by have h_ : ((ji28) : Int) < ((x5_3.length : Int) : Int) := of_decide_eq_true (by first | (with_reducible assumption) | assumption); first | exact h_ | (have e_ := (Kd.R_reads' HO_5.out).1; omega) | simpa using h_) (seg := [.int .i64 (wrap64 ((wrap64 (256 * x6_2)) + x7_3))]) (j := 1) hcl41 hcc41 (show 2 ≤ 3 from by decide) (x' := (⟨(rd_T44 x5_3 (ji28)).f0, wrap64 ((wrap64 (256 * x6_2)) + x7_3), (rd_T44 x5_3 (ji28)).f2⟩ : S44)) (k44_mkM _ _ _ (⟨(rd_T44 x5_3 (ji28)).f0, wrap64 ((wrap64 (256 * x6_2)) + x7_3), (rd_T44 x5_3 (ji28)).f2⟩ : S44) ) (fun _ hk => hk))); (try (have hx41_1 := hcc41 1 _ rfl)); (try (try simp only [show (k44).sz = 3 from rfl, Nat.mul_one, Nat.add_zero] at hx41_1)); (try (have hf41_1 := hfr41 1)); (try (try simp only [show (k44).sz = 3 from rfl, Nat.mul_one, Nat.add_zero] at hf41_1)); (try (clear hcl41 hcc41 hfr41 hM41)))); refine store_event (t := 3) (p := 104) (v := ?vo_w42) (w1 := (wr.setCell ⟨go33, ((ji28) : Int).toNat * 3 + 1, none⟩ (.int .i64 (wrap64 ((wrap64 (256 * x6_2)) + x7_3))))) ?hg ?ho ?hn ?hr ?_; (case ho => rfl); (case hg => rfl); (case hn => rfl); (case hr => first | (go_simp; done) | (go_simp; rfl)); intro w42 hw; have hg : wr.grownBy w42 (some go33) := (by rw [hw]; exact HP41.2); have hp_ : Kd.R k44 44 w42 w.heap.size (fun _ => True) (.slice (some ⟨go33, 0, none⟩) x5_3.length co40) y168 := (by rw [hw, Ny168.out]; exact HP41.1); clear HP41; have n0_ := Aside0.mk (hp_); have n1_ := Aside0.mk (blk_grown (g := gb159) (o := .cells #[.slice (some ad162) l0_0.length c0_0, .slice (some ad165) l0_1.length c0_1] 25 (0, 0)) (by (with_reducible repeat (first | refine blk_drewN ?_ _ | refine blk_drew ?_ | refine blk_alloc ?_ _)); exact BK159.out) hg (Kd.R_ne HO_5.out BK159.out (by decide))); have n2_ := Aside0.mk ((by rw [hw]; exact below_set (HB.out) GB33.out : Below w.heap.size w w42)); clear HO_5; clear BK159; clear HB; have HO_5 := n0_; have BK159 := n1_; have HB := n2_; clear n0_ n1_ n2_; clear hg hw hp_)); try go_wp2_with (first | ((with_reducible refine gate_store (t := 3) (p := 104) rfl ?_); (try (rw [drewN_self wr]; generalize hq_ : World.drewN wr _ = wr; have n0_ := Aside0.mk (Kd.R_at hq_ HO_5.out); have n1_ := Aside0.mk (blk_at hq_ BK159.out); have n2_ := Aside0.mk (below_at hq_ HB.out); clear hq_ HO_5 BK159 HB; have HO_5 := n0_; have BK159 := n1_; have HB := n2_; clear n0_ n1_ n2_; (try (have HX41 := Aside0.mk (show Kd.R k44 44 wr w.heap.size (fun _ => True) (.slice (some ⟨go33, 0, none⟩) x5_3.length co40) x5_3 from (by (with_reducible repeat (first | apply Kd.R_alloc | apply Kd.R_drewN | apply Kd.R_drew)); exact HO_5.out)))); (try (obtain ⟨ce41, hcl41, hM41, hcc41, hfr41⟩ := Kd.R_elem HX41.out z44 ((ji28) : Int) (of_decide_eq_true (by first | (with_reducible assumption) | assumption)) (by have h_ : ((ji28) : Int) < ((x5_3.length : Int) : Int) := of_decide_eq_true (by first | (with_reducible assumption) | assumption); first | exact h_ | (have e_ := (Kd.R_reads' HO_5.out).1; omega) | simpa using h_))); (try (obtain rfl := k44_openM hM41)); (try (have HP41 := Kd.R_seg HX41.out ((ji28) : Int) (of_decide_eq_true (by first | (with_reducible assumption) | assumption)) (by have h_ : ((ji28) : Int) < ((x5_3.length : Int) : Int) := of_decide_eq_true (by first | (with_reducible assumption) | assumption); first | exact h_ | (have e_ := (Kd.R_reads' HO_5.out).1; omega) | simpa using h_) (seg := [.int .i64 (wrap64 ((wrap64 (256 * x6_2)) + x7_3))]) (j := 1) hcl41 hcc41 (show 2 ≤ 3 from by decide) (x' := (⟨(rd_T44 x5_3 (ji28)).f0, wrap64 ((wrap64 (256 * x6_2)) + x7_3), (rd_T44 x5_3 (ji28)).f2⟩ : S44)) (k44_mkM _ _ _ (⟨(rd_T44 x5_3 (ji28)).f0, wrap64 ((wrap64 (256 * x6_2)) + x7_3), (rd_T44 x5_3 (ji28)).f2⟩ : S44) ) (fun _ hk => hk))); (try (have hx41_1 := hcc41 1 _ rfl)); (try (try simp only [show (k44).sz = 3 from rfl, Nat.mul_one, Nat.add_zero] at hx41_1)); (try (have hf41_1 := hfr41 1)); (try (try simp only [show (k44).sz = 3 from rfl, Nat.mul_one, Nat.add_zero] at hf41_1)); (try (clear hcl41 hcc41 hfr41 hM41)))); refine store_event (t := 3) (p := 104) (v := ?vo_w42) (w1 := (wr.setCell ⟨go33, ((ji28) : Int).toNat * 3 + 1, none⟩ (.int .i64 (wrap64 ((wrap64 (256 * x6_2)) + x7_3))))) ?hg ?ho ?hn ?hr ?_; (case ho => rfl); (case hg => rfl); (case hn => rfl); (case hr => first | (go_simp; done) | (go_simp; rfl)); intro w42 hw; have hg : wr.grownBy w42 (some go33) := (by rw [hw]; exact HP41.2); have hp_ : Kd.R k44 44 w42 w.heap.size (fun _ => True) (.slice (some ⟨go33, 0, none⟩) x5_3.length co40) y168 := (by rw [hw, Ny168.out]; exact HP41.1); clear HP41; have n0_ := Aside0.mk (hp_); have n1_ := Aside0.mk (blk_grown (g := gb159) (o := .cells #[.slice (some ad162) l0_0.length c0_0, .slice (some ad165) l0_1.length c0_1] 25 (0, 0)) (by (with_reducible repeat (first | refine blk_drewN ?_ _ | refine blk_drew ?_ | refine blk_alloc ?_ _)); exact BK159.out) hg (Kd.R_ne HO_5.out BK159.out (by decide))); have n2_ := Aside0.mk ((by rw [hw]; exact below_set (HB.out) GB33.out : Below w.heap.size w w42)); clear HO_5; clear BK159; clear HB; have HO_5 := n0_; have BK159 := n1_; have HB := n2_; clear n0_ n1_ n2_; clear hg hw hp_)))
                          go_roundg k3
                          case measure => have := HK1.out; have := HK2.out; have := HK3.out; omega
                          case rel => exact ⟨(y168), (wrap64 (x7_3 + 1)), (by first | rfl | (simp; done) | (simp [*]; done)), H', ⟨by have := HK1.out; have := HK2.out; have := HK3.out; omega⟩, ⟨by (with_reducible repeat (first | apply Kd.R_alloc | apply Kd.R_drewN | apply Kd.R_drew)); exact HO_5.out⟩, ⟨by (with_reducible repeat (first | refine blk_drewN ?_ _ | refine blk_drew ?_ | refine blk_alloc ?_ _)); exact BK159.out⟩, ⟨by repeat (first | (with_reducible first | exact HB.out | apply below_alloc | apply pw_below_drewN | apply below_drew1 | refine below_set ?_ GE159.out) | exact HB.out)⟩⟩
                        ·
                         rw [if_neg c32] at H
                         have c32b0 : (((rd_T44 x5_3 (ji28)).f2) == (rd l0_1 (ji22))) = false := beq_eq_false_iff_ne.mpr c32
                         have c32b1 : (((rd_T44 x5_3 (ji28)).f2) != (rd l0_1 (ji22))) = true := bne_iff_ne.mpr c32
                         by_cases c43 : x5_3.length < 5864062014805
                         ·
                          rw [if_pos c43] at H
                          have LMc43 := Aside0.mk c43
                          clear c43
                          obtain ⟨y169, hy169⟩ : ∃ y_ : List (S44), y_ = (x5_3 ++ [(⟨wrap64 ((wrap64 (256 * x6_2)) + x7_3), wrap64 ((wrap64 (256 * x6_2)) + x7_3), rd l0_1 (ji22)⟩ : S44)]) := ⟨_, rfl⟩
                          replace H : (if (y169.length : Int) > 2001 then (sobriquetref05_Unpack.l1 k3 y169 (wrap64 (x6_2 + 1)) l0_0 l0_1) else (sobriquetref05_Unpack.l2 k3 y169 x6_2 (wrap64 (x7_3 + 1)) l0_0 l0_1)) = some (r1, r2) := by first | (rw [hy169]; with_reducible exact H) | (have H2_ := (Option.bind_some _ _).symm.trans H; rw [hy169]; with_reducible exact H2_) | (have H2_ := (Option.bind_some _ _).symm.trans H; with_reducible exact H2_) | with_reducible exact H | (rw [hy169]; exact H) | exact H
                          have Ny169 := Aside0.mk hy169
                          clear hy169
                          by_cases c44 : (y169.length : Int) > 2001
                          ·
                           rw [if_pos c44] at H
                           have c44b0 : decide (2001 < (y169.length : Int)) = true := decide_eq_true c44
                           have c44b1 : decide (2001 < y169.length) = true := decide_eq_true (by omega)
                           clear c44
                           have H' := Aside0.mk H
                           clear H
                           have hcz45_0 : wr.cell? ⟨gb159, 0, none⟩ = some (.slice (some ad162) l0_0.length c0_0) := (blk_cell BK159.out 0).trans rfl
                           have hcz45_1 : wr.cell? ⟨gb159, 1, none⟩ = some (.slice A0_1 l0_1.length c0_1) := (blk_cell BK159.out 1).trans rfl
                           have hfz45_0 := blk_frozen BK159.out 0
                           have hfz45_1 := blk_frozen BK159.out 1
                           have p164 : 0 ≤ (x6_2 : Int) := of_decide_eq_true (by first | (with_reducible assumption) | assumption)
                           have q164 : x6_2 < (l0_0.length : Int) := of_decide_eq_true (by first | (with_reducible assumption) | assumption)
                           obtain ⟨ad164, e164, hx164_0⟩ := Kd.at_int HR0_0.out x6_2 p164 q164
                           obtain rfl : ad162 = ad164 := (by injection e164)
                           replace hx164_0 := (HB.out.cell (World.block_lt_of_cell? w _ hx164_0)).trans hx164_0
                           replace p164 := eq_true p164
                           replace q164 := eq_true q164
                           have p165 : 0 ≤ ((ji22) : Int) := of_decide_eq_true (by first | (with_reducible assumption) | assumption)
                           have q165 : (ji22) < (l0_1.length : Int) := of_decide_eq_true (by first | (with_reducible assumption) | assumption)
                           obtain ⟨ad165, e165, hx165_0⟩ := Kd.at_int HR0_1.out (ji22) p165 q165
                           cases e165
                           replace hx165_0 := (HB.out.cell (World.block_lt_of_cell? w _ hx165_0)).trans hx165_0
                           replace p165 := eq_true p165
                           replace q165 := eq_true q165
                           obtain ⟨Ao46, co46, eo46⟩ := Kd.R_slice HO_5.out
                           subst eo46
                           have p166 : 0 ≤ ((ji28) : Int) := of_decide_eq_true (by first | (with_reducible assumption) | assumption)
                           have q166 : (ji28) < (x5_3.length : Int) := of_decide_eq_true (by first | (with_reducible assumption) | assumption)
                           obtain ⟨ad166, e166, hx166_0, hx166_1, hx166_2⟩ := at_T44 (Kd.R_reads' HO_5.out).2.2 (ji28) p166 q166
                           cases e166
                           replace p166 := eq_true p166
                           replace q166 := eq_true q166
                           have p167 : 0 ≤ ((ji28) : Int) := of_decide_eq_true (by first | (with_reducible assumption) | assumption)
                           have q167 : (ji28) < (x5_3.length : Int) := of_decide_eq_true (by first | (with_reducible assumption) | assumption)
                           obtain ⟨ad167, e167, hx167_0, hx167_1, hx167_2⟩ := at_T44 (Kd.R_reads' HO_5.out).2.2 (ji28) p167 q167
                           obtain rfl : ad166 = ad167 := (by injection e167)
                           replace p167 := eq_true p167
                           replace q167 := eq_true q167
                           go_wp2_with (first | ((with_reducible refine gate_builtin (b := .append) (xs := #[.tmp 105, .tmp 110]) rfl ?_); (try (refine gate_guard (by rfl) ?_; dsimp only)); at_builtin; refine Kd.R_append k44 (w0 := w) w.heap.size rfl (.tmp 105) (.tmp 110) 22 44 (.agg #[(.int .i64 0), (.int .i64 0), (.int .i64 0)]) 24 rfl Try.underlying22 info44 rfl (by decide) (by omega) (.slice (some ad166) x5_3.length co46) x5_3 (⟨wrap64 ((wrap64 (256 * x6_2)) + x7_3), wrap64 ((wrap64 (256 * x6_2)) + x7_3), rd l0_1 (ji22)⟩ : S44) [.int .i64 (wrap64 ((wrap64 (256 * x6_2)) + x7_3)), .int .i64 (wrap64 ((wrap64 (256 * x6_2)) + x7_3)), .int .i64 (rd l0_1 (ji22))] (fun _ => True) (fun _ => False) rfl rfl ?aP (fun _ hk => hk.elim) ?aF ?aO ?aB ?aS ?aL ?_; (case aP => exact k44_mkM _ _ _ (⟨wrap64 ((wrap64 (256 * x6_2)) + x7_3), wrap64 ((wrap64 (256 * x6_2)) + x7_3), rd l0_1 (ji22)⟩ : S44)); (case aB => exact (by repeat (first | (with_reducible first | exact HB.out | apply below_alloc | apply pw_below_drewN | apply below_drew1 | refine below_set ?_ GE159.out) | exact HB.out))); (case aF => exact (fun _ _ => trivial)); (case aO => exact (by (with_reducible repeat (first | apply Kd.R_alloc | apply Kd.R_drewN | apply Kd.R_drew)); exact HO_5.out)); (case aS => exact (below_size (by repeat (first | (with_reducible first | exact HB.out | apply below_alloc | apply pw_below_drewN | apply below_drew1 | refine below_set ?_ GE159.out) | exact HB.out)))); (case aL => have := LMc43.out; omega); intro v170 w47 ho hb hg hat; rw [← Ny169.out] at ho; have n0_ := Aside0.mk (blk_grown (g := gb159) (o := .cells #[.slice (some ad162) l0_0.length c0_0, .slice (some ad165) l0_1.length c0_1] 25 (0, 0)) (by (with_reducible repeat (first | refine blk_drewN ?_ _ | refine blk_drew ?_ | refine blk_alloc ?_ _)); exact BK159.out) hg (Kd.R_ne HO_5.out BK159.out (by decide))); have n1_ := Aside0.mk (hb); have n2_ := Aside0.mk (ho); clear BK159; clear HB; clear HO_5; have BK159 := n0_; have HB := n1_; have HO171 := n2_; clear n0_ n1_ n2_; clear ho hb hg hat; obtain ⟨Ao48, co48, eo48⟩ := Kd.R_slice HO171.out; subst eo48))
                           repeat (go_quiet (first | ((with_reducible refine gate_builtin (b := .append) (xs := #[.tmp 105, .tmp 110]) rfl ?_); (try (refine gate_guard (by rfl) ?_; dsimp only)); at_builtin; refine Kd.R_append k44 (w0 := w) w.heap.size rfl (.tmp 105) (.tmp 110) 22 44 (.agg #[(.int .i64 0), (.int .i64 0), (.int .i64 0)]) 24 rfl Try.underlying22 info44 rfl (by decide) (by omega) (.slice (some ad166) x5_3.length co46) x5_3 (⟨wrap64 ((wrap64 (256 * x6_2)) + x7_3), wrap64 ((wrap64 (256 * x6_2)) + x7_3), rd l0_1 (ji22)⟩ : S44) [.int .i64 (wrap64 ((wrap64 (256 * x6_2)) + x7_3)), .int .i64 (wrap64 ((wrap64 (256 * x6_2)) + x7_3)), .int .i64 (rd l0_1 (ji22))] (fun _ => True) (fun _ => False) rfl rfl ?aP (fun _ hk => hk.elim) ?aF ?aO ?aB ?aS ?aL ?_; (case aP => exact k44_mkM _ _ _ (⟨wrap64 ((wrap64 (256 * x6_2)) + x7_3), wrap64 ((wrap64 (256 * x6_2)) + x7_3), rd l0_1 (ji22)⟩ : S44)); (case aB => exact (by repeat (first | (with_reducible first | exact HB.out | apply below_alloc | apply pw_below_drewN | apply below_drew1 | refine below_set ?_ GE159.out) | exact HB.out))); (case aF => exact (fun _ _ => trivial)); (case aO => exact (by (with_reducible repeat (first | apply Kd.R_alloc | apply Kd.R_drewN | apply Kd.R_drew)); exact HO_5.out)); (case aS => exact (below_size (by repeat (first | (with_reducible first | exact HB.out | apply below_alloc | apply pw_below_drewN | apply below_drew1 | refine below_set ?_ GE159.out) | exact HB.out)))); (case aL => have := LMc43.out; omega); intro v170 w47 ho hb hg hat; rw [← Ny169.out] at ho; have n0_ := Aside0.mk (blk_grown (g := gb159) (o := .cells #[.slice (some ad162) l0_0.length c0_0, .slice (some ad165) l0_1.length c0_1] 25 (0, 0)) (by (with_reducible repeat (first | refine blk_drewN ?_ _ | refine blk_drew ?_ | refine blk_alloc ?_ _)); exact BK159.out) hg (Kd.R_ne HO_5.out BK159.out (by decide))); have n1_ := Aside0.mk (hb); have n2_ := Aside0.mk (ho); clear BK159; clear HB; clear HO_5; have BK159 := n0_; have HB := n1_; have HO171 := n2_; clear n0_ n1_ n2_; clear ho hb hg hat; obtain ⟨Ao48, co48, eo48⟩ := Kd.R_slice HO171.out; subst eo48)); try go_wp2_with (first | ((with_reducible refine gate_builtin (b := .append) (xs := #[.tmp 105, .tmp 110]) rfl ?_); (try (refine gate_guard (by rfl) ?_; dsimp only)); at_builtin; refine Kd.R_append k44 (w0 := w) w.heap.size rfl (.tmp 105) (.tmp 110) 22 44 (.agg #[(.int .i64 0), (.int .i64 0), (.int .i64 0)]) 24 rfl Try.underlying22 info44 rfl (by decide) (by omega) (.slice (some ad166) x5_3.length co46) x5_3 (⟨wrap64 ((wrap64 (256 * x6_2)) + x7_3), wrap64 ((wrap64 (256 * x6_2)) + x7_3), rd l0_1 (ji22)⟩ : S44) [.int .i64 (wrap64 ((wrap64 (256 * x6_2)) + x7_3)), .int .i64 (wrap64 ((wrap64 (256 * x6_2)) + x7_3)), .int .i64 (rd l0_1 (ji22))] (fun _ => True) (fun _ => False) rfl rfl ?aP (fun _ hk => hk.elim) ?aF ?aO ?aB ?aS ?aL ?_; (case aP => exact k44_mkM _ _ _ (⟨wrap64 ((wrap64 (256 * x6_2)) + x7_3), wrap64 ((wrap64 (256 * x6_2)) + x7_3), rd l0_1 (ji22)⟩ : S44)); (case aB => exact (by repeat (first | (with_reducible first | exact HB.out | apply below_alloc | apply pw_below_drewN | apply below_drew1 | refine below_set ?_ GE159.out) | exact HB.out))); (case aF => exact (fun _ _ => trivial)); (case aO => exact (by (with_reducible repeat (first | apply Kd.R_alloc | apply Kd.R_drewN | apply Kd.R_drew)); exact HO_5.out)); (case aS => exact (below_size (by repeat (first | (with_reducible first | exact HB.out | apply below_alloc | apply pw_below_drewN | apply below_drew1 | refine below_set ?_ GE159.out) | exact HB.out)))); (case aL => have := LMc43.out; omega); intro v170 w47 ho hb hg hat; rw [← Ny169.out] at ho; have n0_ := Aside0.mk (blk_grown (g := gb159) (o := .cells #[.slice (some ad162) l0_0.length c0_0, .slice (some ad165) l0_1.length c0_1] 25 (0, 0)) (by (with_reducible repeat (first | refine blk_drewN ?_ _ | refine blk_drew ?_ | refine blk_alloc ?_ _)); exact BK159.out) hg (Kd.R_ne HO_5.out BK159.out (by decide))); have n1_ := Aside0.mk (hb); have n2_ := Aside0.mk (ho); clear BK159; clear HB; clear HO_5; have BK159 := n0_; have HB := n1_; have HO171 := n2_; clear n0_ n1_ n2_; clear ho hb hg hat; obtain ⟨Ao48, co48, eo48⟩ := Kd.R_slice HO171.out; subst eo48)))
                           go_roundg k3
                           case measure => have := HK1.out; have := HK2.out; have := HK3.out; omega
                           case rel => exact ⟨(y169), (wrap64 (x6_2 + 1)), (by first | rfl | (simp; done) | (simp [*]; done)), H', ⟨by have := HK1.out; have := HK2.out; have := HK3.out; omega⟩, ⟨by (with_reducible repeat (first | apply Kd.R_alloc | apply Kd.R_drewN | apply Kd.R_drew)); exact HO171.out⟩, ⟨by (with_reducible repeat (first | refine blk_drewN ?_ _ | refine blk_drew ?_ | refine blk_alloc ?_ _)); exact BK159.out⟩, ⟨by repeat (first | (with_reducible first | exact HB.out | apply below_alloc | apply pw_below_drewN | apply below_drew1 | refine below_set ?_ GE159.out) | exact HB.out)⟩⟩
                          ·
                           rw [if_neg c44] at H
                           have c44b0 : decide (2001 < (y169.length : Int)) = false := decide_eq_false c44
                           have c44b1 : decide (2001 < y169.length) = false := decide_eq_false (by omega)
                           clear c44
                           have H' := Aside0.mk H
                           clear H
                           have hcz49_0 : wr.cell? ⟨gb159, 0, none⟩ = some (.slice (some ad162) l0_0.length c0_0) := (blk_cell BK159.out 0).trans rfl
                           have hcz49_1 : wr.cell? ⟨gb159, 1, none⟩ = some (.slice A0_1 l0_1.length c0_1) := (blk_cell BK159.out 1).trans rfl
                           have hfz49_0 := blk_frozen BK159.out 0
                           have hfz49_1 := blk_frozen BK159.out 1
                           have p164 : 0 ≤ (x6_2 : Int) := of_decide_eq_true (by first | (with_reducible assumption) | assumption)
                           have q164 : x6_2 < (l0_0.length : Int) := of_decide_eq_true (by first | (with_reducible assumption) | assumption)
                           obtain ⟨ad164, e164, hx164_0⟩ := Kd.at_int HR0_0.out x6_2 p164 q164
                           obtain rfl : ad162 = ad164 := (by injection e164)
                           replace hx164_0 := (HB.out.cell (World.block_lt_of_cell? w _ hx164_0)).trans hx164_0
                           replace p164 := eq_true p164
                           replace q164 := eq_true q164
                           have p165 : 0 ≤ ((ji22) : Int) := of_decide_eq_true (by first | (with_reducible assumption) | assumption)
                           have q165 : (ji22) < (l0_1.length : Int) := of_decide_eq_true (by first | (with_reducible assumption) | assumption)
                           obtain ⟨ad165, e165, hx165_0⟩ := Kd.at_int HR0_1.out (ji22) p165 q165
                           cases e165
                           replace hx165_0 := (HB.out.cell (World.block_lt_of_cell? w _ hx165_0)).trans hx165_0
                           replace p165 := eq_true p165
                           replace q165 := eq_true q165
                           obtain ⟨Ao50, co50, eo50⟩ := Kd.R_slice HO_5.out
                           subst eo50
                           have p166 : 0 ≤ ((ji28) : Int) := of_decide_eq_true (by first | (with_reducible assumption) | assumption)
                           have q166 : (ji28) < (x5_3.length : Int) := of_decide_eq_true (by first | (with_reducible assumption) | assumption)
                           obtain ⟨ad166, e166, hx166_0, hx166_1, hx166_2⟩ := at_T44 (Kd.R_reads' HO_5.out).2.2 (ji28) p166 q166
                           cases e166
                           replace p166 := eq_true p166
                           replace q166 := eq_true q166
                           have p167 : 0 ≤ ((ji28) : Int) := of_decide_eq_true (by first | (with_reducible assumption) | assumption)
                           have q167 : (ji28) < (x5_3.length : Int) := of_decide_eq_true (by first | (with_reducible assumption) | assumption)
                           obtain ⟨ad167, e167, hx167_0, hx167_1, hx167_2⟩ := at_T44 (Kd.R_reads' HO_5.out).2.2 (ji28) p167 q167
                           obtain rfl : ad166 = ad167 := (by injection e167)
                           replace p167 := eq_true p167
                           replace q167 := eq_true q167
                           go_wp2_with (first | ((with_reducible refine gate_builtin (b := .append) (xs := #[.tmp 105, .tmp 110]) rfl ?_); (try (refine gate_guard (by rfl) ?_; dsimp only)); at_builtin; refine Kd.R_append k44 (w0 := w) w.heap.size rfl (.tmp 105) (.tmp 110) 22 44 (.agg #[(.int .i64 0), (.int .i64 0), (.int .i64 0)]) 24 rfl Try.underlying22 info44 rfl (by decide) (by omega) (.slice (some ad166) x5_3.length co50) x5_3 (⟨wrap64 ((wrap64 (256 * x6_2)) + x7_3), wrap64 ((wrap64 (256 * x6_2)) + x7_3), rd l0_1 (ji22)⟩ : S44) [.int .i64 (wrap64 ((wrap64 (256 * x6_2)) + x7_3)), .int .i64 (wrap64 ((wrap64 (256 * x6_2)) + x7_3)), .int .i64 (rd l0_1 (ji22))] (fun _ => True) (fun _ => False) rfl rfl ?aP (fun _ hk => hk.elim) ?aF ?aO ?aB ?aS ?aL ?_; (case aP => exact k44_mkM _ _ _ (⟨wrap64 ((wrap64 (256 * x6_2)) + x7_3), wrap64 ((wrap64 (256 * x6_2)) + x7_3), rd l0_1 (ji22)⟩ : S44)); (case aB => exact (by repeat (first | (with_reducible first | exact HB.out | apply below_alloc | apply pw_below_drewN | apply below_drew1 | refine below_set ?_ GE159.out) | exact HB.out))); (case aF => exact (fun _ _ => trivial)); (case aO => exact (by (with_reducible repeat (first | apply Kd.R_alloc | apply Kd.R_drewN | apply Kd.R_drew)); exact HO_5.out)); (case aS => exact (below_size (by repeat (first | (with_reducible first | exact HB.out | apply below_alloc | apply pw_below_drewN | apply below_drew1 | refine below_set ?_ GE159.out) | exact HB.out)))); (case aL => have := LMc43.out; omega); intro v170 w51 ho hb hg hat; rw [← Ny169.out] at ho; have n0_ := Aside0.mk (blk_grown (g := gb159) (o := .cells #[.slice (some ad162) l0_0.length c0_0, .slice (some ad165) l0_1.length c0_1] 25 (0, 0)) (by (with_reducible repeat (first | refine blk_drewN ?_ _ | refine blk_drew ?_ | refine blk_alloc ?_ _)); exact BK159.out) hg (Kd.R_ne HO_5.out BK159.out (by decide))); have n1_ := Aside0.mk (hb); have n2_ := Aside0.mk (ho); clear BK159; clear HB; clear HO_5; have BK159 := n0_; have HB := n1_; have HO171 := n2_; clear n0_ n1_ n2_; clear ho hb hg hat; obtain ⟨Ao52, co52, eo52⟩ := Kd.R_slice HO171.out; subst eo52))
                           repeat (go_quiet (first | ((with_reducible refine gate_builtin (b := .append) (xs := #[.tmp 105, .tmp 110]) rfl ?_); (try (refine gate_guard (by rfl) ?_; dsimp only)); at_builtin; refine Kd.R_append k44 (w0 := w) w.heap.size rfl (.tmp 105) (.tmp 110) 22 44 (.agg #[(.int .i64 0), (.int .i64 0), (.int .i64 0)]) 24 rfl Try.underlying22 info44 rfl (by decide) (by omega) (.slice (some ad166) x5_3.length co50) x5_3 (⟨wrap64 ((wrap64 (256 * x6_2)) + x7_3), wrap64 ((wrap64 (256 * x6_2)) + x7_3), rd l0_1 (ji22)⟩ : S44) [.int .i64 (wrap64 ((wrap64 (256 * x6_2)) + x7_3)), .int .i64 (wrap64 ((wrap64 (256 * x6_2)) + x7_3)), .int .i64 (rd l0_1 (ji22))] (fun _ => True) (fun _ => False) rfl rfl ?aP (fun _ hk => hk.elim) ?aF ?aO ?aB ?aS ?aL ?_; (case aP => exact k44_mkM _ _ _ (⟨wrap64 ((wrap64 (256 * x6_2)) + x7_3), wrap64 ((wrap64 (256 * x6_2)) + x7_3), rd l0_1 (ji22)⟩ : S44)); (case aB => exact (by repeat (first | (with_reducible first | exact HB.out | apply below_alloc | apply pw_below_drewN | apply below_drew1 | refine below_set ?_ GE159.out) | exact HB.out))); (case aF => exact (fun _ _ => trivial)); (case aO => exact (by (with_reducible repeat (first | apply Kd.R_alloc | apply Kd.R_drewN | apply Kd.R_drew)); exact HO_5.out)); (case aS => exact (below_size (by repeat (first | (with_reducible first | exact HB.out | apply below_alloc | apply pw_below_drewN | apply below_drew1 | refine below_set ?_ GE159.out) | exact HB.out)))); (case aL => have := LMc43.out; omega); intro v170 w51 ho hb hg hat; rw [← Ny169.out] at ho; have n0_ := Aside0.mk (blk_grown (g := gb159) (o := .cells #[.slice (some ad162) l0_0.length c0_0, .slice (some ad165) l0_1.length c0_1] 25 (0, 0)) (by (with_reducible repeat (first | refine blk_drewN ?_ _ | refine blk_drew ?_ | refine blk_alloc ?_ _)); exact BK159.out) hg (Kd.R_ne HO_5.out BK159.out (by decide))); have n1_ := Aside0.mk (hb); have n2_ := Aside0.mk (ho); clear BK159; clear HB; clear HO_5; have BK159 := n0_; have HB := n1_; have HO171 := n2_; clear n0_ n1_ n2_; clear ho hb hg hat; obtain ⟨Ao52, co52, eo52⟩ := Kd.R_slice HO171.out; subst eo52)); try go_wp2_with (first | ((with_reducible refine gate_builtin (b := .append) (xs := #[.tmp 105, .tmp 110]) rfl ?_); (try (refine gate_guard (by rfl) ?_; dsimp only)); at_builtin; refine Kd.R_append k44 (w0 := w) w.heap.size rfl (.tmp 105) (.tmp 110) 22 44 (.agg #[(.int .i64 0), (.int .i64 0), (.int .i64 0)]) 24 rfl Try.underlying22 info44 rfl (by decide) (by omega) (.slice (some ad166) x5_3.length co50) x5_3 (⟨wrap64 ((wrap64 (256 * x6_2)) + x7_3), wrap64 ((wrap64 (256 * x6_2)) + x7_3), rd l0_1 (ji22)⟩ : S44) [.int .i64 (wrap64 ((wrap64 (256 * x6_2)) + x7_3)), .int .i64 (wrap64 ((wrap64 (256 * x6_2)) + x7_3)), .int .i64 (rd l0_1 (ji22))] (fun _ => True) (fun _ => False) rfl rfl ?aP (fun _ hk => hk.elim) ?aF ?aO ?aB ?aS ?aL ?_; (case aP => exact k44_mkM _ _ _ (⟨wrap64 ((wrap64 (256 * x6_2)) + x7_3), wrap64 ((wrap64 (256 * x6_2)) + x7_3), rd l0_1 (ji22)⟩ : S44)); (case aB => exact (by repeat (first | (with_reducible first | exact HB.out | apply below_alloc | apply pw_below_drewN | apply below_drew1 | refine below_set ?_ GE159.out) | exact HB.out))); (case aF => exact (fun _ _ => trivial)); (case aO => exact (by (with_reducible repeat (first | apply Kd.R_alloc | apply Kd.R_drewN | apply Kd.R_drew)); exact HO_5.out)); (case aS => exact (below_size (by repeat (first | (with_reducible first | exact HB.out | apply below_alloc | apply pw_below_drewN | apply below_drew1 | refine below_set ?_ GE159.out) | exact HB.out)))); (case aL => have := LMc43.out; omega); intro v170 w51 ho hb hg hat; rw [← Ny169.out] at ho; have n0_ := Aside0.mk (blk_grown (g := gb159) (o := .cells #[.slice (some ad162) l0_0.length c0_0, .slice (some ad165) l0_1.length c0_1] 25 (0, 0)) (by (with_reducible repeat (first | refine blk_drewN ?_ _ | refine blk_drew ?_ | refine blk_alloc ?_ _)); exact BK159.out) hg (Kd.R_ne HO_5.out BK159.out (by decide))); have n1_ := Aside0.mk (hb); have n2_ := Aside0.mk (ho); clear BK159; clear HB; clear HO_5; have BK159 := n0_; have HB := n1_; have HO171 := n2_; clear n0_ n1_ n2_; clear ho hb hg hat; obtain ⟨Ao52, co52, eo52⟩ := Kd.R_slice HO171.out; subst eo52)))
                           go_roundg k3
                           case measure => have := HK1.out; have := HK2.out; have := HK3.out; omega
                           case rel => exact ⟨(y169), (wrap64 (x7_3 + 1)), (by first | rfl | (simp; done) | (simp [*]; done)), H', ⟨by have := HK1.out; have := HK2.out; have := HK3.out; omega⟩, ⟨by (with_reducible repeat (first | apply Kd.R_alloc | apply Kd.R_drewN | apply Kd.R_drew)); exact HO171.out⟩, ⟨by (with_reducible repeat (first | refine blk_drewN ?_ _ | refine blk_drew ?_ | refine blk_alloc ?_ _)); exact BK159.out⟩, ⟨by repeat (first | (with_reducible first | exact HB.out | apply below_alloc | apply pw_below_drewN | apply below_drew1 | refine below_set ?_ GE159.out) | exact HB.out)⟩⟩
                         ·
                          rw [if_neg c43] at H
                          exact absurd H (by simp)
                       ·
                        rw [if_neg c31] at H
                        have c31b0 : (((rd_T44 x5_3 (ji28)).f1) == (wrap64 ((wrap64 ((wrap64 (256 * x6_2)) + x7_3)) - 1))) = false := beq_eq_false_iff_ne.mpr c31
                        have c31b1 : (((rd_T44 x5_3 (ji28)).f1) != (wrap64 ((wrap64 ((wrap64 (256 * x6_2)) + x7_3)) - 1))) = true := bne_iff_ne.mpr c31
                        by_cases c53 : x5_3.length < 5864062014805
                        ·
                         rw [if_pos c53] at H
                         have LMc53 := Aside0.mk c53
                         clear c53
                         obtain ⟨y172, hy172⟩ : ∃ y_ : List (S44), y_ = (x5_3 ++ [(⟨wrap64 ((wrap64 (256 * x6_2)) + x7_3), wrap64 ((wrap64 (256 * x6_2)) + x7_3), rd l0_1 (ji22)⟩ : S44)]) := ⟨_, rfl⟩
                         replace H : (if (y172.length : Int) > 2001 then (sobriquetref05_Unpack.l1 k3 y172 (wrap64 (x6_2 + 1)) l0_0 l0_1) else (sobriquetref05_Unpack.l2 k3 y172 x6_2 (wrap64 (x7_3 + 1)) l0_0 l0_1)) = some (r1, r2) := by first | (rw [hy172]; with_reducible exact H) | (have H2_ := (Option.bind_some _ _).symm.trans H; rw [hy172]; with_reducible exact H2_) | (have H2_ := (Option.bind_some _ _).symm.trans H; with_reducible exact H2_) | with_reducible exact H | (rw [hy172]; exact H) | exact H
                         have Ny172 := Aside0.mk hy172
                         clear hy172
                         by_cases c54 : (y172.length : Int) > 2001
                         ·
                          rw [if_pos c54] at H
                          have c54b0 : decide (2001 < (y172.length : Int)) = true := decide_eq_true c54
                          have c54b1 : decide (2001 < y172.length) = true := decide_eq_true (by omega)
                          clear c54
                          have H' := Aside0.mk H
                          clear H
                          have hcz55_0 : wr.cell? ⟨gb159, 0, none⟩ = some (.slice (some ad162) l0_0.length c0_0) := (blk_cell BK159.out 0).trans rfl
                          have hcz55_1 : wr.cell? ⟨gb159, 1, none⟩ = some (.slice A0_1 l0_1.length c0_1) := (blk_cell BK159.out 1).trans rfl
                          have hfz55_0 := blk_frozen BK159.out 0
                          have hfz55_1 := blk_frozen BK159.out 1
                          have p164 : 0 ≤ (x6_2 : Int) := of_decide_eq_true (by first | (with_reducible assumption) | assumption)
                          have q164 : x6_2 < (l0_0.length : Int) := of_decide_eq_true (by first | (with_reducible assumption) | assumption)
                          obtain ⟨ad164, e164, hx164_0⟩ := Kd.at_int HR0_0.out x6_2 p164 q164
                          obtain rfl : ad162 = ad164 := (by injection e164)
                          replace hx164_0 := (HB.out.cell (World.block_lt_of_cell? w _ hx164_0)).trans hx164_0
                          replace p164 := eq_true p164
                          replace q164 := eq_true q164
                          have p165 : 0 ≤ ((ji22) : Int) := of_decide_eq_true (by first | (with_reducible assumption) | assumption)
                          have q165 : (ji22) < (l0_1.length : Int) := of_decide_eq_true (by first | (with_reducible assumption) | assumption)
                          obtain ⟨ad165, e165, hx165_0⟩ := Kd.at_int HR0_1.out (ji22) p165 q165
                          cases e165
                          replace hx165_0 := (HB.out.cell (World.block_lt_of_cell? w _ hx165_0)).trans hx165_0
                          replace p165 := eq_true p165
                          replace q165 := eq_true q165
                          obtain ⟨Ao56, co56, eo56⟩ := Kd.R_slice HO_5.out
                          subst eo56
                          have p166 : 0 ≤ ((ji28) : Int) := of_decide_eq_true (by first | (with_reducible assumption) | assumption)
                          have q166 : (ji28) < (x5_3.length : Int) := of_decide_eq_true (by first | (with_reducible assumption) | assumption)
                          obtain ⟨ad166, e166, hx166_0, hx166_1, hx166_2⟩ := at_T44 (Kd.R_reads' HO_5.out).2.2 (ji28) p166 q166
                          cases e166
                          replace p166 := eq_true p166
                          replace q166 := eq_true q166
                          go_wp2_with (first | ((with_reducible refine gate_builtin (b := .append) (xs := #[.tmp 105, .tmp 110]) rfl ?_); (try (refine gate_guard (by rfl) ?_; dsimp only)); at_builtin; refine Kd.R_append k44 (w0 := w) w.heap.size rfl (.tmp 105) (.tmp 110) 22 44 (.agg #[(.int .i64 0), (.int .i64 0), (.int .i64 0)]) 24 rfl Try.underlying22 info44 rfl (by decide) (by omega) (.slice (some ad166) x5_3.length co56) x5_3 (⟨wrap64 ((wrap64 (256 * x6_2)) + x7_3), wrap64 ((wrap64 (256 * x6_2)) + x7_3), rd l0_1 (ji22)⟩ : S44) [.int .i64 (wrap64 ((wrap64 (256 * x6_2)) + x7_3)), .int .i64 (wrap64 ((wrap64 (256 * x6_2)) + x7_3)), .int .i64 (rd l0_1 (ji22))] (fun _ => True) (fun _ => False) rfl rfl ?aP (fun _ hk => hk.elim) ?aF ?aO ?aB ?aS ?aL ?_; (case aP => exact k44_mkM _ _ _ (⟨wrap64 ((wrap64 (256 * x6_2)) + x7_3), wrap64 ((wrap64 (256 * x6_2)) + x7_3), rd l0_1 (ji22)⟩ : S44)); (case aB => exact (by repeat (first | (with_reducible first | exact HB.out | apply below_alloc | apply pw_below_drewN | apply below_drew1 | refine below_set ?_ GE159.out) | exact HB.out))); (case aF => exact (fun _ _ => trivial)); (case aO => exact (by (with_reducible repeat (first | apply Kd.R_alloc | apply Kd.R_drewN | apply Kd.R_drew)); exact HO_5.out)); (case aS => exact (below_size (by repeat (first | (with_reducible first | exact HB.out | apply below_alloc | apply pw_below_drewN | apply below_drew1 | refine below_set ?_ GE159.out) | exact HB.out)))); (case aL => have := LMc53.out; omega); intro v173 w57 ho hb hg hat; rw [← Ny172.out] at ho; have n0_ := Aside0.mk (blk_grown (g := gb159) (o := .cells #[.slice (some ad162) l0_0.length c0_0, .slice (some ad165) l0_1.length c0_1] 25 (0, 0)) (by (with_reducible repeat (first | refine blk_drewN ?_ _ | refine blk_drew ?_ | refine blk_alloc ?_ _)); exact BK159.out) hg (Kd.R_ne HO_5.out BK159.out (by decide))); have n1_ := Aside0.mk (hb); have n2_ := Aside0.mk (ho); clear BK159; clear HB; clear HO_5; have BK159 := n0_; have HB := n1_; have HO174 := n2_; clear n0_ n1_ n2_; clear ho hb hg hat; obtain ⟨Ao58, co58, eo58⟩ := Kd.R_slice HO174.out; subst eo58))
                          repeat (go_quiet (first | ((with_reducible refine gate_builtin (b := .append) (xs := #[.tmp 105, .tmp 110]) rfl ?_); (try (refine gate_guard (by rfl) ?_; dsimp only)); at_builtin; refine Kd.R_append k44 (w0 := w) w.heap.size rfl (.tmp 105) (.tmp 110) 22 44 (.agg #[(.int .i64 0), (.int .i64 0), (.int .i64 0)]) 24 rfl Try.underlying22 info44 rfl (by decide) (by omega) (.slice (some ad166) x5_3.length co56) x5_3 (⟨wrap64 ((wrap64 (256 * x6_2)) + x7_3), wrap64 ((wrap64 (256 * x6_2)) + x7_3), rd l0_1 (ji22)⟩ : S44) [.int .i64 (wrap64 ((wrap64 (256 * x6_2)) + x7_3)), .int .i64 (wrap64 ((wrap64 (256 * x6_2)) + x7_3)), .int .i64 (rd l0_1 (ji22))] (fun _ => True) (fun _ => False) rfl rfl ?aP (fun _ hk => hk.elim) ?aF ?aO ?aB ?aS ?aL ?_; (case aP => exact k44_mkM _ _ _ (⟨wrap64 ((wrap64 (256 * x6_2)) + x7_3), wrap64 ((wrap64 (256 * x6_2)) + x7_3), rd l0_1 (ji22)⟩ : S44)); (case aB => exact (by repeat (first | (with_reducible first | exact HB.out | apply below_alloc | apply pw_below_drewN | apply below_drew1 | refine below_set ?_ GE159.out) | exact HB.out))); (case aF => exact (fun _ _ => trivial)); (case aO => exact (by (with_reducible repeat (first | apply Kd.R_alloc | apply Kd.R_drewN | apply Kd.R_drew)); exact HO_5.out)); (case aS => exact (below_size (by repeat (first | (with_reducible first | exact HB.out | apply below_alloc | apply pw_below_drewN | apply below_drew1 | refine below_set ?_ GE159.out) | exact HB.out)))); (case aL => have := LMc53.out; omega); intro v173 w57 ho hb hg hat; rw [← Ny172.out] at ho; have n0_ := Aside0.mk (blk_grown (g := gb159) (o := .cells #[.slice (some ad162) l0_0.length c0_0, .slice (some ad165) l0_1.length c0_1] 25 (0, 0)) (by (with_reducible repeat (first | refine blk_drewN ?_ _ | refine blk_drew ?_ | refine blk_alloc ?_ _)); exact BK159.out) hg (Kd.R_ne HO_5.out BK159.out (by decide))); have n1_ := Aside0.mk (hb); have n2_ := Aside0.mk (ho); clear BK159; clear HB; clear HO_5; have BK159 := n0_; have HB := n1_; have HO174 := n2_; clear n0_ n1_ n2_; clear ho hb hg hat; obtain ⟨Ao58, co58, eo58⟩ := Kd.R_slice HO174.out; subst eo58)); try go_wp2_with (first | ((with_reducible refine gate_builtin (b := .append) (xs := #[.tmp 105, .tmp 110]) rfl ?_); (try (refine gate_guard (by rfl) ?_; dsimp only)); at_builtin; refine Kd.R_append k44 (w0 := w) w.heap.size rfl (.tmp 105) (.tmp 110) 22 44 (.agg #[(.int .i64 0), (.int .i64 0), (.int .i64 0)]) 24 rfl Try.underlying22 info44 rfl (by decide) (by omega) (.slice (some ad166) x5_3.length co56) x5_3 (⟨wrap64 ((wrap64 (256 * x6_2)) + x7_3), wrap64 ((wrap64 (256 * x6_2)) + x7_3), rd l0_1 (ji22)⟩ : S44) [.int .i64 (wrap64 ((wrap64 (256 * x6_2)) + x7_3)), .int .i64 (wrap64 ((wrap64 (256 * x6_2)) + x7_3)), .int .i64 (rd l0_1 (ji22))] (fun _ => True) (fun _ => False) rfl rfl ?aP (fun _ hk => hk.elim) ?aF ?aO ?aB ?aS ?aL ?_; (case aP => exact k44_mkM _ _ _ (⟨wrap64 ((wrap64 (256 * x6_2)) + x7_3), wrap64 ((wrap64 (256 * x6_2)) + x7_3), rd l0_1 (ji22)⟩ : S44)); (case aB => exact (by repeat (first | (with_reducible first | exact HB.out | apply below_alloc | apply pw_below_drewN | apply below_drew1 | refine below_set ?_ GE159.out) | exact HB.out))); (case aF => exact (fun _ _ => trivial)); (case aO => exact (by (with_reducible repeat (first | apply Kd.R_alloc | apply Kd.R_drewN | apply Kd.R_drew)); exact HO_5.out)); (case aS => exact (below_size (by repeat (first | (with_reducible first | exact HB.out | apply below_alloc | apply pw_below_drewN | apply below_drew1 | refine below_set ?_ GE159.out) | exact HB.out)))); (case aL => have := LMc53.out; omega); intro v173 w57 ho hb hg hat; rw [← Ny172.out] at ho; have n0_ := Aside0.mk (blk_grown (g := gb159) (o := .cells #[.slice (some ad162) l0_0.length c0_0, .slice (some ad165) l0_1.length c0_1] 25 (0, 0)) (by (with_reducible repeat (first | refine blk_drewN ?_ _ | refine blk_drew ?_ | refine blk_alloc ?_ _)); exact BK159.out) hg (Kd.R_ne HO_5.out BK159.out (by decide))); have n1_ := Aside0.mk (hb); have n2_ := Aside0.mk (ho); clear BK159; clear HB; clear HO_5; have BK159 := n0_; have HB := n1_; have HO174 := n2_; clear n0_ n1_ n2_; clear ho hb hg hat; obtain ⟨Ao58, co58, eo58⟩ := Kd.R_slice HO174.out; subst eo58)))
                          go_roundg k3
                          case measure => have := HK1.out; have := HK2.out; have := HK3.out; omega
                          case rel => exact ⟨(y172), (wrap64 (x6_2 + 1)), (by first | rfl | (simp; done) | (simp [*]; done)), H', ⟨by have := HK1.out; have := HK2.out; have := HK3.out; omega⟩, ⟨by (with_reducible repeat (first | apply Kd.R_alloc | apply Kd.R_drewN | apply Kd.R_drew)); exact HO174.out⟩, ⟨by (with_reducible repeat (first | refine blk_drewN ?_ _ | refine blk_drew ?_ | refine blk_alloc ?_ _)); exact BK159.out⟩, ⟨by repeat (first | (with_reducible first | exact HB.out | apply below_alloc | apply pw_below_drewN | apply below_drew1 | refine below_set ?_ GE159.out) | exact HB.out)⟩⟩
                         ·
                          rw [if_neg c54] at H
                          have c54b0 : decide (2001 < (y172.length : Int)) = false := decide_eq_false c54
                          have c54b1 : decide (2001 < y172.length) = false := decide_eq_false (by omega)
                          clear c54
                          have H' := Aside0.mk H
                          clear H
                          have hcz59_0 : wr.cell? ⟨gb159, 0, none⟩ = some (.slice (some ad162) l0_0.length c0_0) := (blk_cell BK159.out 0).trans rfl
                          have hcz59_1 : wr.cell? ⟨gb159, 1, none⟩ = some (.slice A0_1 l0_1.length c0_1) := (blk_cell BK159.out 1).trans rfl
                          have hfz59_0 := blk_frozen BK159.out 0
                          have hfz59_1 := blk_frozen BK159.out 1
                          have p164 : 0 ≤ (x6_2 : Int) := of_decide_eq_true (by first | (with_reducible assumption) | assumption)
                          have q164 : x6_2 < (l0_0.length : Int) := of_decide_eq_true (by first | (with_reducible assumption) | assumption)
                          obtain ⟨ad164, e164, hx164_0⟩ := Kd.at_int HR0_0.out x6_2 p164 q164
                          obtain rfl : ad162 = ad164 := (by injection e164)
                          replace hx164_0 := (HB.out.cell (World.block_lt_of_cell? w _ hx164_0)).trans hx164_0
                          replace p164 := eq_true p164
                          replace q164 := eq_true q164
                          have p165 : 0 ≤ ((ji22) : Int) := of_decide_eq_true (by first | (with_reducible assumption) | assumption)
                          have q165 : (ji22) < (l0_1.length : Int) := of_decide_eq_true (by first | (with_reducible assumption) | assumption)
                          obtain ⟨ad165, e165, hx165_0⟩ := Kd.at_int HR0_1.out (ji22) p165 q165
                          cases e165
                          replace hx165_0 := (HB.out.cell (World.block_lt_of_cell? w _ hx165_0)).trans hx165_0
                          replace p165 := eq_true p165
                          replace q165 := eq_true q165
                          obtain ⟨Ao60, co60, eo60⟩ := Kd.R_slice HO_5.out
                          subst eo60
                          have p166 : 0 ≤ ((ji28) : Int) := of_decide_eq_true (by first | (with_reducible assumption) | assumption)
                          have q166 : (ji28) < (x5_3.length : Int) := of_decide_eq_true (by first | (with_reducible assumption) | assumption)
                          obtain ⟨ad166, e166, hx166_0, hx166_1, hx166_2⟩ := at_T44 (Kd.R_reads' HO_5.out).2.2 (ji28) p166 q166
                          cases e166
                          replace p166 := eq_true p166
                          replace q166 := eq_true q166
                          go_wp2_with (first | ((with_reducible refine gate_builtin (b := .append) (xs := #[.tmp 105, .tmp 110]) rfl ?_); (try (refine gate_guard (by rfl) ?_; dsimp only)); at_builtin; refine Kd.R_append k44 (w0 := w) w.heap.size rfl (.tmp 105) (.tmp 110) 22 44 (.agg #[(.int .i64 0), (.int .i64 0), (.int .i64 0)]) 24 rfl Try.underlying22 info44 rfl (by decide) (by omega) (.slice (some ad166) x5_3.length co60) x5_3 (⟨wrap64 ((wrap64 (256 * x6_2)) + x7_3), wrap64 ((wrap64 (256 * x6_2)) + x7_3), rd l0_1 (ji22)⟩ : S44) [.int .i64 (wrap64 ((wrap64 (256 * x6_2)) + x7_3)), .int .i64 (wrap64 ((wrap64 (256 * x6_2)) + x7_3)), .int .i64 (rd l0_1 (ji22))] (fun _ => True) (fun _ => False) rfl rfl ?aP (fun _ hk => hk.elim) ?aF ?aO ?aB ?aS ?aL ?_; (case aP => exact k44_mkM _ _ _ (⟨wrap64 ((wrap64 (256 * x6_2)) + x7_3), wrap64 ((wrap64 (256 * x6_2)) + x7_3), rd l0_1 (ji22)⟩ : S44)); (case aB => exact (by repeat (first | (with_reducible first | exact HB.out | apply below_alloc | apply pw_below_drewN | apply below_drew1 | refine below_set ?_ GE159.out) | exact HB.out))); (case aF => exact (fun _ _ => trivial)); (case aO => exact (by (with_reducible repeat (first | apply Kd.R_alloc | apply Kd.R_drewN | apply Kd.R_drew)); exact HO_5.out)); (case aS => exact (below_size (by repeat (first | (with_reducible first | exact HB.out | apply below_alloc | apply pw_below_drewN | apply below_drew1 | refine below_set ?_ GE159.out) | exact HB.out)))); (case aL => have := LMc53.out; omega); intro v173 w61 ho hb hg hat; rw [← Ny172.out] at ho; have n0_ := Aside0.mk (blk_grown (g := gb159) (o := .cells #[.slice (some ad162) l0_0.length c0_0, .slice (some ad165) l0_1.length c0_1] 25 (0, 0)) (by (with_reducible repeat (first | refine blk_drewN ?_ _ | refine blk_drew ?_ | refine blk_alloc ?_ _)); exact BK159.out) hg (Kd.R_ne HO_5.out BK159.out (by decide))); have n1_ := Aside0.mk (hb); have n2_ := Aside0.mk (ho); clear BK159; clear HB; clear HO_5; have BK159 := n0_; have HB := n1_; have HO174 := n2_; clear n0_ n1_ n2_; clear ho hb hg hat; obtain ⟨Ao62, co62, eo62⟩ := Kd.R_slice HO174.out; subst eo62))
                          repeat (go_quiet (first | ((with_reducible refine gate_builtin (b := .append) (xs := #[.tmp 105, .tmp 110]) rfl ?_); (try (refine gate_guard (by rfl) ?_; dsimp only)); at_builtin; refine Kd.R_append k44 (w0 := w) w.heap.size rfl (.tmp 105) (.tmp 110) 22 44 (.agg #[(.int .i64 0), (.int .i64 0), (.int .i64 0)]) 24 rfl Try.underlying22 info44 rfl (by decide) (by omega) (.slice (some ad166) x5_3.length co60) x5_3 (⟨wrap64 ((wrap64 (256 * x6_2)) + x7_3), wrap64 ((wrap64 (256 * x6_2)) + x7_3), rd l0_1 (ji22)⟩ : S44) [.int .i64 (wrap64 ((wrap64 (256 * x6_2)) + x7_3)), .int .i64 (wrap64 ((wrap64 (256 * x6_2)) + x7_3)), .int .i64 (rd l0_1 (ji22))] (fun _ => True) (fun _ => False) rfl rfl ?aP (fun _ hk => hk.elim) ?aF ?aO ?aB ?aS ?aL ?_; (case aP => exact k44_mkM _ _ _ (⟨wrap64 ((wrap64 (256 * x6_2)) + x7_3), wrap64 ((wrap64 (256 * x6_2)) + x7_3), rd l0_1 (ji22)⟩ : S44)); (case aB => exact (by repeat (first | (with_reducible first | exact HB.out | apply below_alloc | apply pw_below_drewN | apply below_drew1 | refine below_set ?_ GE159.out) | exact HB.out))); (case aF => exact (fun _ _ => trivial)); (case aO => exact (by (with_reducible repeat (first | apply Kd.R_alloc | apply Kd.R_drewN | apply Kd.R_drew)); exact HO_5.out)); (case aS => exact (below_size (by repeat (first | (with_reducible first | exact HB.out | apply below_alloc | apply pw_below_drewN | apply below_drew1 | refine below_set ?_ GE159.out) | exact HB.out)))); (case aL => have := LMc53.out; omega); intro v173 w61 ho hb hg hat; rw [← Ny172.out] at ho; have n0_ := Aside0.mk (blk_grown (g := gb159) (o := .cells #[.slice (some ad162) l0_0.length c0_0, .slice (some ad165) l0_1.length c0_1] 25 (0, 0)) (by (with_reducible repeat (first | refine blk_drewN ?_ _ | refine blk_drew ?_ | refine blk_alloc ?_ _)); exact BK159.out) hg (Kd.R_ne HO_5.out BK159.out (by decide))); have n1_ := Aside0.mk (hb); have n2_ := Aside0.mk (ho); clear BK159; clear HB; clear HO_5; have BK159 := n0_; have HB := n1_; have HO174 := n2_; clear n0_ n1_ n2_; clear ho hb hg hat; obtain ⟨Ao62, co62, eo62⟩ := Kd.R_slice HO174.out; subst eo62)); try go_wp2_with (first | ((with_reducible refine gate_builtin (b := .append) (xs := #[.tmp 105, .tmp 110]) rfl ?_); (try (refine gate_guard (by rfl) ?_; dsimp only)); at_builtin; refine Kd.R_append k44 (w0 := w) w.heap.size rfl (.tmp 105) (.tmp 110) 22 44 (.agg #[(.int .i64 0), (.int .i64 0), (.int .i64 0)]) 24 rfl Try.underlying22 info44 rfl (by decide) (by omega) (.slice (some ad166) x5_3.length co60) x5_3 (⟨wrap64 ((wrap64 (256 * x6_2)) + x7_3), wrap64 ((wrap64 (256 * x6_2)) + x7_3), rd l0_1 (ji22)⟩ : S44) [.int .i64 (wrap64 ((wrap64 (256 * x6_2)) + x7_3)), .int .i64 (wrap64 ((wrap64 (256 * x6_2)) + x7_3)), .int .i64 (rd l0_1 (ji22))] (fun _ => True) (fun _ => False) rfl rfl ?aP (fun _ hk => hk.elim) ?aF ?aO ?aB ?aS ?aL ?_; (case aP => exact k44_mkM _ _ _ (⟨wrap64 ((wrap64 (256 * x6_2)) + x7_3), wrap64 ((wrap64 (256 * x6_2)) + x7_3), rd l0_1 (ji22)⟩ : S44)); (case aB => exact (by repeat (first | (with_reducible first | exact HB.out | apply below_alloc | apply pw_below_drewN | apply below_drew1 | refine below_set ?_ GE159.out) | exact HB.out))); (case aF => exact (fun _ _ => trivial)); (case aO => exact (by (with_reducible repeat (first | apply Kd.R_alloc | apply Kd.R_drewN | apply Kd.R_drew)); exact HO_5.out)); (case aS => exact (below_size (by repeat (first | (with_reducible first | exact HB.out | apply below_alloc | apply pw_below_drewN | apply below_drew1 | refine below_set ?_ GE159.out) | exact HB.out)))); (case aL => have := LMc53.out; omega); intro v173 w61 ho hb hg hat; rw [← Ny172.out] at ho; have n0_ := Aside0.mk (blk_grown (g := gb159) (o := .cells #[.slice (some ad162) l0_0.length c0_0, .slice (some ad165) l0_1.length c0_1] 25 (0, 0)) (by (with_reducible repeat (first | refine blk_drewN ?_ _ | refine blk_drew ?_ | refine blk_alloc ?_ _)); exact BK159.out) hg (Kd.R_ne HO_5.out BK159.out (by decide))); have n1_ := Aside0.mk (hb); have n2_ := Aside0.mk (ho); clear BK159; clear HB; clear HO_5; have BK159 := n0_; have HB := n1_; have HO174 := n2_; clear n0_ n1_ n2_; clear ho hb hg hat; obtain ⟨Ao62, co62, eo62⟩ := Kd.R_slice HO174.out; subst eo62)))
                          go_roundg k3
                          case measure => have := HK1.out; have := HK2.out; have := HK3.out; omega
                          case rel => exact ⟨(y172), (wrap64 (x7_3 + 1)), (by first | rfl | (simp; done) | (simp [*]; done)), H', ⟨by have := HK1.out; have := HK2.out; have := HK3.out; omega⟩, ⟨by (with_reducible repeat (first | apply Kd.R_alloc | apply Kd.R_drewN | apply Kd.R_drew)); exact HO174.out⟩, ⟨by (with_reducible repeat (first | refine blk_drewN ?_ _ | refine blk_drew ?_ | refine blk_alloc ?_ _)); exact BK159.out⟩, ⟨by repeat (first | (with_reducible first | exact HB.out | apply below_alloc | apply pw_below_drewN | apply below_drew1 | refine below_set ?_ GE159.out) | exact HB.out)⟩⟩
                        ·
                         rw [if_neg c53] at H
                         exact absurd H (by simp)
                      ·
                       rw [if_neg c30] at H
                       exact absurd H (by simp)
                     ·
                      rw [if_neg c29] at H
                      exact absurd H (by simp)
                    ·
                     rw [if_neg c27] at H
                     have c27b0 : decide (0 < (x5_3.length : Int)) = false := decide_eq_false c27
                     have c27b1 : decide (0 < x5_3.length) = false := decide_eq_false (by omega)
                     clear c27
                     by_cases c63 : x5_3.length < 5864062014805
                     ·
                      rw [if_pos c63] at H
                      have LMc63 := Aside0.mk c63
                      clear c63
                      obtain ⟨y175, hy175⟩ : ∃ y_ : List (S44), y_ = (x5_3 ++ [(⟨wrap64 ((wrap64 (256 * x6_2)) + x7_3), wrap64 ((wrap64 (256 * x6_2)) + x7_3), rd l0_1 (ji22)⟩ : S44)]) := ⟨_, rfl⟩
                      replace H : (if (y175.length : Int) > 2001 then (sobriquetref05_Unpack.l1 k3 y175 (wrap64 (x6_2 + 1)) l0_0 l0_1) else (sobriquetref05_Unpack.l2 k3 y175 x6_2 (wrap64 (x7_3 + 1)) l0_0 l0_1)) = some (r1, r2) := by first | (rw [hy175]; with_reducible exact H) | (have H2_ := (Option.bind_some _ _).symm.trans H; rw [hy175]; with_reducible exact H2_) | (have H2_ := (Option.bind_some _ _).symm.trans H; with_reducible exact H2_) | with_reducible exact H | (rw [hy175]; exact H) | exact H
                      have Ny175 := Aside0.mk hy175
                      clear hy175
                      by_cases c64 : (y175.length : Int) > 2001
                      ·
                       rw [if_pos c64] at H
                       have c64b0 : decide (2001 < (y175.length : Int)) = true := decide_eq_true c64
                       have c64b1 : decide (2001 < y175.length) = true := decide_eq_true (by omega)
                       clear c64
                       have H' := Aside0.mk H
                       clear H
                       have hcz65_0 : wr.cell? ⟨gb159, 0, none⟩ = some (.slice (some ad162) l0_0.length c0_0) := (blk_cell BK159.out 0).trans rfl
                       have hcz65_1 : wr.cell? ⟨gb159, 1, none⟩ = some (.slice A0_1 l0_1.length c0_1) := (blk_cell BK159.out 1).trans rfl
                       have hfz65_0 := blk_frozen BK159.out 0
                       have hfz65_1 := blk_frozen BK159.out 1
                       have p164 : 0 ≤ (x6_2 : Int) := of_decide_eq_true (by first | (with_reducible assumption) | assumption)
                       have q164 : x6_2 < (l0_0.length : Int) := of_decide_eq_true (by first | (with_reducible assumption) | assumption)
                       obtain ⟨ad164, e164, hx164_0⟩ := Kd.at_int HR0_0.out x6_2 p164 q164
                       obtain rfl : ad162 = ad164 := (by injection e164)
                       replace hx164_0 := (HB.out.cell (World.block_lt_of_cell? w _ hx164_0)).trans hx164_0
                       replace p164 := eq_true p164
                       replace q164 := eq_true q164
                       have p165 : 0 ≤ ((ji22) : Int) := of_decide_eq_true (by first | (with_reducible assumption) | assumption)
                       have q165 : (ji22) < (l0_1.length : Int) := of_decide_eq_true (by first | (with_reducible assumption) | assumption)
                       obtain ⟨ad165, e165, hx165_0⟩ := Kd.at_int HR0_1.out (ji22) p165 q165
                       cases e165
                       replace hx165_0 := (HB.out.cell (World.block_lt_of_cell? w _ hx165_0)).trans hx165_0
                       replace p165 := eq_true p165
                       replace q165 := eq_true q165
                       obtain ⟨Ao66, co66, eo66⟩ := Kd.R_slice HO_5.out
                       subst eo66
                       go_wp2_with (first | ((with_reducible refine gate_builtin (b := .append) (xs := #[.tmp 105, .tmp 110]) rfl ?_); (try (refine gate_guard (by rfl) ?_; dsimp only)); at_builtin; refine Kd.R_append k44 (w0 := w) w.heap.size rfl (.tmp 105) (.tmp 110) 22 44 (.agg #[(.int .i64 0), (.int .i64 0), (.int .i64 0)]) 24 rfl Try.underlying22 info44 rfl (by decide) (by omega) (.slice Ao66 x5_3.length co66) x5_3 (⟨wrap64 ((wrap64 (256 * x6_2)) + x7_3), wrap64 ((wrap64 (256 * x6_2)) + x7_3), rd l0_1 (ji22)⟩ : S44) [.int .i64 (wrap64 ((wrap64 (256 * x6_2)) + x7_3)), .int .i64 (wrap64 ((wrap64 (256 * x6_2)) + x7_3)), .int .i64 (rd l0_1 (ji22))] (fun _ => True) (fun _ => False) rfl rfl ?aP (fun _ hk => hk.elim) ?aF ?aO ?aB ?aS ?aL ?_; (case aP => exact k44_mkM _ _ _ (⟨wrap64 ((wrap64 (256 * x6_2)) + x7_3), wrap64 ((wrap64 (256 * x6_2)) + x7_3), rd l0_1 (ji22)⟩ : S44)); (case aB => exact (by repeat (first | (with_reducible first | exact HB.out | apply below_alloc | apply pw_below_drewN | apply below_drew1 | refine below_set ?_ GE159.out) | exact HB.out))); (case aF => exact (fun _ _ => trivial)); (case aO => exact (by (with_reducible repeat (first | apply Kd.R_alloc | apply Kd.R_drewN | apply Kd.R_drew)); exact HO_5.out)); (case aS => exact (below_size (by repeat (first | (with_reducible first | exact HB.out | apply below_alloc | apply pw_below_drewN | apply below_drew1 | refine below_set ?_ GE159.out) | exact HB.out)))); (case aL => have := LMc63.out; omega); intro v176 w67 ho hb hg hat; rw [← Ny175.out] at ho; have n0_ := Aside0.mk (blk_grown (g := gb159) (o := .cells #[.slice (some ad162) l0_0.length c0_0, .slice (some ad165) l0_1.length c0_1] 25 (0, 0)) (by (with_reducible repeat (first | refine blk_drewN ?_ _ | refine blk_drew ?_ | refine blk_alloc ?_ _)); exact BK159.out) hg (Kd.R_ne HO_5.out BK159.out (by decide))); have n1_ := Aside0.mk (hb); have n2_ := Aside0.mk (ho); clear BK159; clear HB; clear HO_5; have BK159 := n0_; have HB := n1_; have HO177 := n2_; clear n0_ n1_ n2_; clear ho hb hg hat; obtain ⟨Ao68, co68, eo68⟩ := Kd.R_slice HO177.out; subst eo68))
                       repeat (go_quiet (first | ((with_reducible refine gate_builtin (b := .append) (xs := #[.tmp 105, .tmp 110]) rfl ?_); (try (refine gate_guard (by rfl) ?_; dsimp only)); at_builtin; refine Kd.R_append k44 (w0 := w) w.heap.size rfl (.tmp 105) (.tmp 110) 22 44 (.agg #[(.int .i64 0), (.int .i64 0), (.int .i64 0)]) 24 rfl Try.underlying22 info44 rfl (by decide) (by omega) (.slice Ao66 x5_3.length co66) x5_3 (⟨wrap64 ((wrap64 (256 * x6_2)) + x7_3), wrap64 ((wrap64 (256 * x6_2)) + x7_3), rd l0_1 (ji22)⟩ : S44) [.int .i64 (wrap64 ((wrap64 (256 * x6_2)) + x7_3)), .int .i64 (wrap64 ((wrap64 (256 * x6_2)) + x7_3)), .int .i64 (rd l0_1 (ji22))] (fun _ => True) (fun _ => False) rfl rfl ?aP (fun _ hk => hk.elim) ?aF ?aO ?aB ?aS ?aL ?_; (case aP => exact k44_mkM _ _ _ (⟨wrap64 ((wrap64 (256 * x6_2)) + x7_3), wrap64 ((wrap64 (256 * x6_2)) + x7_3), rd l0_1 (ji22)⟩ : S44)); (case aB => exact (by repeat (first | (with_reducible first | exact HB.out | apply below_alloc | apply pw_below_drewN | apply below_drew1 | refine below_set ?_ GE159.out) | exact HB.out))); (case aF => exact (fun _ _ => trivial)); (case aO => exact (by (with_reducible repeat (first | apply Kd.R_alloc | apply Kd.R_drewN | apply Kd.R_drew)); exact HO_5.out)); (case aS => exact (below_size (by repeat (first | (with_reducible first | exact HB.out | apply below_alloc | apply pw_below_drewN | apply below_drew1 | refine below_set ?_ GE159.out) | exact HB.out)))); (case aL => have := LMc63.out; omega); intro v176 w67 ho hb hg hat; rw [← Ny175.out] at ho; have n0_ := Aside0.mk (blk_grown (g := gb159) (o := .cells #[.slice (some ad162) l0_0.length c0_0, .slice (some ad165) l0_1.length c0_1] 25 (0, 0)) (by (with_reducible repeat (first | refine blk_drewN ?_ _ | refine blk_drew ?_ | refine blk_alloc ?_ _)); exact BK159.out) hg (Kd.R_ne HO_5.out BK159.out (by decide))); have n1_ := Aside0.mk (hb); have n2_ := Aside0.mk (ho); clear BK159; clear HB; clear HO_5; have BK159 := n0_; have HB := n1_; have HO177 := n2_; clear n0_ n1_ n2_; clear ho hb hg hat; obtain ⟨Ao68, co68, eo68⟩ := Kd.R_slice HO177.out; subst eo68)); try go_wp2_with (first | ((with_reducible refine gate_builtin (b := .append) (xs := #[.tmp 105, .tmp 110]) rfl ?_); (try (refine gate_guard (by rfl) ?_; dsimp only)); at_builtin; refine Kd.R_append k44 (w0 := w) w.heap.size rfl (.tmp 105) (.tmp 110) 22 44 (.agg #[(.int .i64 0), (.int .i64 0), (.int .i64 0)]) 24 rfl Try.underlying22 info44 rfl (by decide) (by omega) (.slice Ao66 x5_3.length co66) x5_3 (⟨wrap64 ((wrap64 (256 * x6_2)) + x7_3), wrap64 ((wrap64 (256 * x6_2)) + x7_3), rd l0_1 (ji22)⟩ : S44) [.int .i64 (wrap64 ((wrap64 (256 * x6_2)) + x7_3)), .int .i64 (wrap64 ((wrap64 (256 * x6_2)) + x7_3)), .int .i64 (rd l0_1 (ji22))] (fun _ => True) (fun _ => False) rfl rfl ?aP (fun _ hk => hk.elim) ?aF ?aO ?aB ?aS ?aL ?_; (case aP => exact k44_mkM _ _ _ (⟨wrap64 ((wrap64 (256 * x6_2)) + x7_3), wrap64 ((wrap64 (256 * x6_2)) + x7_3), rd l0_1 (ji22)⟩ : S44)); (case aB => exact (by repeat (first | (with_reducible first | exact HB.out | apply below_alloc | apply pw_below_drewN | apply below_drew1 | refine below_set ?_ GE159.out) | exact HB.out))); (case aF => exact (fun _ _ => trivial)); (case aO => exact (by (with_reducible repeat (first | apply Kd.R_alloc | apply Kd.R_drewN | apply Kd.R_drew)); exact HO_5.out)); (case aS => exact (below_size (by repeat (first | (with_reducible first | exact HB.out | apply below_alloc | apply pw_below_drewN | apply below_drew1 | refine below_set ?_ GE159.out) | exact HB.out)))); (case aL => have := LMc63.out; omega); intro v176 w67 ho hb hg hat; rw [← Ny175.out] at ho; have n0_ := Aside0.mk (blk_grown (g := gb159) (o := .cells #[.slice (some ad162) l0_0.length c0_0, .slice (some ad165) l0_1.length c0_1] 25 (0, 0)) (by (with_reducible repeat (first | refine blk_drewN ?_ _ | refine blk_drew ?_ | refine blk_alloc ?_ _)); exact BK159.out) hg (Kd.R_ne HO_5.out BK159.out (by decide))); have n1_ := Aside0.mk (hb); have n2_ := Aside0.mk (ho); clear BK159; clear HB; clear HO_5; have BK159 := n0_; have HB := n1_; have HO177 := n2_; clear n0_ n1_ n2_; clear ho hb hg hat; obtain ⟨Ao68, co68, eo68⟩ := Kd.R_slice HO177.out; subst eo68)))
                       go_roundg k3
                       case measure => have := HK1.out; have := HK2.out; have := HK3.out; omega
                       case rel => exact ⟨(y175), (wrap64 (x6_2 + 1)), (by first | rfl | (simp; done) | (simp [*]; done)), H', ⟨by have := HK1.out; have := HK2.out; have := HK3.out; omega⟩, ⟨by (with_reducible repeat (first | apply Kd.R_alloc | apply Kd.R_drewN | apply Kd.R_drew)); exact HO177.out⟩, ⟨by (with_reducible repeat (first | refine blk_drewN ?_ _ | refine blk_drew ?_ | refine blk_alloc ?_ _)); exact BK159.out⟩, ⟨by repeat (first | (with_reducible first | exact HB.out | apply below_alloc | apply pw_below_drewN | apply below_drew1 | refine below_set ?_ GE159.out) | exact HB.out)⟩⟩
                      ·
                       rw [if_neg c64] at H
                       have c64b0 : decide (2001 < (y175.length : Int)) = false := decide_eq_false c64
                       have c64b1 : decide (2001 < y175.length) = false := decide_eq_false (by omega)
                       clear c64
                       have H' := Aside0.mk H
                       clear H
                       have hcz69_0 : wr.cell? ⟨gb159, 0, none⟩ = some (.slice (some ad162) l0_0.length c0_0) := (blk_cell BK159.out 0).trans rfl
                       have hcz69_1 : wr.cell? ⟨gb159, 1, none⟩ = some (.slice A0_1 l0_1.length c0_1) := (blk_cell BK159.out 1).trans rfl
                       have hfz69_0 := blk_frozen BK159.out 0
                       have hfz69_1 := blk_frozen BK159.out 1
                       have p164 : 0 ≤ (x6_2 : Int) := of_decide_eq_true (by first | (with_reducible assumption) | assumption)
                       have q164 : x6_2 < (l0_0.length : Int) := of_decide_eq_true (by first | (with_reducible assumption) | assumption)
                       obtain ⟨ad164, e164, hx164_0⟩ := Kd.at_int HR0_0.out x6_2 p164 q164
                       obtain rfl : ad162 = ad164 := (by injection e164)
                       replace hx164_0 := (HB.out.cell (World.block_lt_of_cell? w _ hx164_0)).trans hx164_0
                       replace p164 := eq_true p164
                       replace q164 := eq_true q164
                       have p165 : 0 ≤ ((ji22) : Int) := of_decide_eq_true (by first | (with_reducible assumption) | assumption)
                       have q165 : (ji22) < (l0_1.length : Int) := of_decide_eq_true (by first | (with_reducible assumption) | assumption)
                       obtain ⟨ad165, e165, hx165_0⟩ := Kd.at_int HR0_1.out (ji22) p165 q165
                       cases e165
                       replace hx165_0 := (HB.out.cell (World.block_lt_of_cell? w _ hx165_0)).trans hx165_0
                       replace p165 := eq_true p165
                       replace q165 := eq_true q165
                       obtain ⟨Ao70, co70, eo70⟩ := Kd.R_slice HO_5.out
                       subst eo70
                       go_wp2_with (first | ((with_reducible refine gate_builtin (b := .append) (xs := #[.tmp 105, .tmp 110]) rfl ?_); (try (refine gate_guard (by rfl) ?_; dsimp only)); at_builtin; refine Kd.R_append k44 (w0 := w) w.heap.size rfl (.tmp 105) (.tmp 110) 22 44 (.agg #[(.int .i64 0), (.int .i64 0), (.int .i64 0)]) 24 rfl Try.underlying22 info44 rfl (by decide) (by omega) (.slice Ao70 x5_3.length co70) x5_3 (⟨wrap64 ((wrap64 (256 * x6_2)) + x7_3), wrap64 ((wrap64 (256 * x6_2)) + x7_3), rd l0_1 (ji22)⟩ : S44) [.int .i64 (wrap64 ((wrap64 (256 * x6_2)) + x7_3)), .int .i64 (wrap64 ((wrap64 (256 * x6_2)) + x7_3)), .int .i64 (rd l0_1 (ji22))] (fun _ => True) (fun _ => False) rfl rfl ?aP (fun _ hk => hk.elim) ?aF ?aO ?aB ?aS ?aL ?_; (case aP => exact k44_mkM _ _ _ (⟨wrap64 ((wrap64 (256 * x6_2)) + x7_3), wrap64 ((wrap64 (256 * x6_2)) + x7_3), rd l0_1 (ji22)⟩ : S44)); (case aB => exact (by repeat (first | (with_reducible first | exact HB.out | apply below_alloc | apply pw_below_drewN | apply below_drew1 | refine below_set ?_ GE159.out) | exact HB.out))); (case aF => exact (fun _ _ => trivial)); (case aO => exact (by (with_reducible repeat (first | apply Kd.R_alloc | apply Kd.R_drewN | apply Kd.R_drew)); exact HO_5.out)); (case aS => exact (below_size (by repeat (first | (with_reducible first | exact HB.out | apply below_alloc | apply pw_below_drewN | apply below_drew1 | refine below_set ?_ GE159.out) | exact HB.out)))); (case aL => have := LMc63.out; omega); intro v176 w71 ho hb hg hat; rw [← Ny175.out] at ho; have n0_ := Aside0.mk (blk_grown (g := gb159) (o := .cells #[.slice (some ad162) l0_0.length c0_0, .slice (some ad165) l0_1.length c0_1] 25 (0, 0)) (by (with_reducible repeat (first | refine blk_drewN ?_ _ | refine blk_drew ?_ | refine blk_alloc ?_ _)); exact BK159.out) hg (Kd.R_ne HO_5.out BK159.out (by decide))); have n1_ := Aside0.mk (hb); have n2_ := Aside0.mk (ho); clear BK159; clear HB; clear HO_5; have BK159 := n0_; have HB := n1_; have HO177 := n2_; clear n0_ n1_ n2_; clear ho hb hg hat; obtain ⟨Ao72, co72, eo72⟩ := Kd.R_slice HO177.out; subst eo72))
                       repeat (go_quiet (first | ((with_reducible refine gate_builtin (b := .append) (xs := #[.tmp 105, .tmp 110]) rfl ?_); (try (refine gate_guard (by rfl) ?_; dsimp only)); at_builtin; refine Kd.R_append k44 (w0 := w) w.heap.size rfl (.tmp 105) (.tmp 110) 22 44 (.agg #[(.int .i64 0), (.int .i64 0), (.int .i64 0)]) 24 rfl Try.underlying22 info44 rfl (by decide) (by omega) (.slice Ao70 x5_3.length co70) x5_3 (⟨wrap64 ((wrap64 (256 * x6_2)) + x7_3), wrap64 ((wrap64 (256 * x6_2)) + x7_3), rd l0_1 (ji22)⟩ : S44) [.int .i64 (wrap64 ((wrap64 (256 * x6_2)) + x7_3)), .int .i64 (wrap64 ((wrap64 (256 * x6_2)) + x7_3)), .int .i64 (rd l0_1 (ji22))] (fun _ => True) (fun _ => False) rfl rfl ?aP (fun _ hk => hk.elim) ?aF ?aO ?aB ?aS ?aL ?_; (case aP => exact k44_mkM _ _ _ (⟨wrap64 ((wrap64 (256 * x6_2)) + x7_3), wrap64 ((wrap64 (256 * x6_2)) + x7_3), rd l0_1 (ji22)⟩ : S44)); (case aB => exact (by repeat (first | (with_reducible first | exact HB.out | apply below_alloc | apply pw_below_drewN | apply below_drew1 | refine below_set ?_ GE159.out) | exact HB.out))); (case aF => exact (fun _ _ => trivial)); (case aO => exact (by (with_reducible repeat (first | apply Kd.R_alloc | apply Kd.R_drewN | apply Kd.R_drew)); exact HO_5.out)); (case aS => exact (below_size (by repeat (first | (with_reducible first | exact HB.out | apply below_alloc | apply pw_below_drewN | apply below_drew1 | refine below_set ?_ GE159.out) | exact HB.out)))); (case aL => have := LMc63.out; omega); intro v176 w71 ho hb hg hat; rw [← Ny175.out] at ho; have n0_ := Aside0.mk (blk_grown (g := gb159) (o := .cells #[.slice (some ad162) l0_0.length c0_0, .slice (some ad165) l0_1.length c0_1] 25 (0, 0)) (by (with_reducible repeat (first | refine blk_drewN ?_ _ | refine blk_drew ?_ | refine blk_alloc ?_ _)); exact BK159.out) hg (Kd.R_ne HO_5.out BK159.out (by decide))); have n1_ := Aside0.mk (hb); have n2_ := Aside0.mk (ho); clear BK159; clear HB; clear HO_5; have BK159 := n0_; have HB := n1_; have HO177 := n2_; clear n0_ n1_ n2_; clear ho hb hg hat; obtain ⟨Ao72, co72, eo72⟩ := Kd.R_slice HO177.out; subst eo72)); try go_wp2_with (first | ((with_reducible refine gate_builtin (b := .append) (xs := #[.tmp 105, .tmp 110]) rfl ?_); (try (refine gate_guard (by rfl) ?_; dsimp only)); at_builtin; refine Kd.R_append k44 (w0 := w) w.heap.size rfl (.tmp 105) (.tmp 110) 22 44 (.agg #[(.int .i64 0), (.int .i64 0), (.int .i64 0)]) 24 rfl Try.underlying22 info44 rfl (by decide) (by omega) (.slice Ao70 x5_3.length co70) x5_3 (⟨wrap64 ((wrap64 (256 * x6_2)) + x7_3), wrap64 ((wrap64 (256 * x6_2)) + x7_3), rd l0_1 (ji22)⟩ : S44) [.int .i64 (wrap64 ((wrap64 (256 * x6_2)) + x7_3)), .int .i64 (wrap64 ((wrap64 (256 * x6_2)) + x7_3)), .int .i64 (rd l0_1 (ji22))] (fun _ => True) (fun _ => False) rfl rfl ?aP (fun _ hk => hk.elim) ?aF ?aO ?aB ?aS ?aL ?_; (case aP => exact k44_mkM _ _ _ (⟨wrap64 ((wrap64 (256 * x6_2)) + x7_3), wrap64 ((wrap64 (256 * x6_2)) + x7_3), rd l0_1 (ji22)⟩ : S44)); (case aB => exact (by repeat (first | (with_reducible first | exact HB.out | apply below_alloc | apply pw_below_drewN | apply below_drew1 | refine below_set ?_ GE159.out) | exact HB.out))); (case aF => exact (fun _ _ => trivial)); (case aO => exact (by (with_reducible repeat (first | apply Kd.R_alloc | apply Kd.R_drewN | apply Kd.R_drew)); exact HO_5.out)); (case aS => exact (below_size (by repeat (first | (with_reducible first | exact HB.out | apply below_alloc | apply pw_below_drewN | apply below_drew1 | refine below_set ?_ GE159.out) | exact HB.out)))); (case aL => have := LMc63.out; omega); intro v176 w71 ho hb hg hat; rw [← Ny175.out] at ho; have n0_ := Aside0.mk (blk_grown (g := gb159) (o := .cells #[.slice (some ad162) l0_0.length c0_0, .slice (some ad165) l0_1.length c0_1] 25 (0, 0)) (by (with_reducible repeat (first | refine blk_drewN ?_ _ | refine blk_drew ?_ | refine blk_alloc ?_ _)); exact BK159.out) hg (Kd.R_ne HO_5.out BK159.out (by decide))); have n1_ := Aside0.mk (hb); have n2_ := Aside0.mk (ho); clear BK159; clear HB; clear HO_5; have BK159 := n0_; have HB := n1_; have HO177 := n2_; clear n0_ n1_ n2_; clear ho hb hg hat; obtain ⟨Ao72, co72, eo72⟩ := Kd.R_slice HO177.out; subst eo72)))
                       go_roundg k3
                       case measure => have := HK1.out; have := HK2.out; have := HK3.out; omega
                       case rel => exact ⟨(y175), (wrap64 (x7_3 + 1)), (by first | rfl | (simp; done) | (simp [*]; done)), H', ⟨by have := HK1.out; have := HK2.out; have := HK3.out; omega⟩, ⟨by (with_reducible repeat (first | apply Kd.R_alloc | apply Kd.R_drewN | apply Kd.R_drew)); exact HO177.out⟩, ⟨by (with_reducible repeat (first | refine blk_drewN ?_ _ | refine blk_drew ?_ | refine blk_alloc ?_ _)); exact BK159.out⟩, ⟨by repeat (first | (with_reducible first | exact HB.out | apply below_alloc | apply pw_below_drewN | apply below_drew1 | refine below_set ?_ GE159.out) | exact HB.out)⟩⟩
                     ·
                      rw [if_neg c63] at H
                      exact absurd H (by simp)
                  ·
                   rw [if_neg c24] at H
                   exact absurd H (by simp)
                 ·
                  rw [if_neg c23] at H
                  exact absurd H (by simp)
                ·
                 rw [if_neg c21] at H
                 exact absurd H (by simp)
               ·
                rw [if_neg c20] at H
                exact absurd H (by simp)
              ·
               rw [if_neg c19] at H
               have c19b0 : decide (x7_3 < 256) = false := decide_eq_false c19
               clear c19
               have H' := Aside0.mk H
               clear H
               go_wp2
               repeat (go_quiet (fail); try go_wp2)
               go_roundg k3
               case measure => have := HK1.out; have := HK2.out; have := HK3.out; omega
               case rel => exact ⟨(x5_3), (wrap64 (x6_2 + 1)), (by first | rfl | (simp; done) | (simp [*]; done)), H', ⟨by have := HK1.out; have := HK2.out; have := HK3.out; omega⟩, ⟨by (with_reducible repeat (first | apply Kd.R_alloc | apply Kd.R_drewN | apply Kd.R_drew)); exact HO_5.out⟩, ⟨by (with_reducible repeat (first | refine blk_drewN ?_ _ | refine blk_drew ?_ | refine blk_alloc ?_ _)); exact BK159.out⟩, ⟨by repeat (first | (with_reducible first | exact HB.out | apply below_alloc | apply pw_below_drewN | apply below_drew1 | refine below_set ?_ GE159.out) | exact HB.out)⟩⟩
           ·
            replace c17 := Bool.eq_false_iff.mpr c17
            subst c17
            have H1 : (some (([] : List (S44)), false)) = some (r1, r2) := by rw [if_neg (show ¬ (false = true) by decide)] at H; exact H
            clear H
            have H := H1
            clear H1
            simp only [Option.some.injEq, Prod.mk.injEq] at H
            obtain ⟨rfl, rfl⟩ := H
            have hcz73_0 : wr.cell? ⟨gb159, 0, none⟩ = some (.slice A0_0 l0_0.length c0_0) := (blk_cell BK159.out 0).trans rfl
            have hcz73_1 : wr.cell? ⟨gb159, 1, none⟩ = some (.slice A0_1 l0_1.length c0_1) := (blk_cell BK159.out 1).trans rfl
            have hfz73_0 := blk_frozen BK159.out 0
            have hfz73_1 := blk_frozen BK159.out 1
            have p162 : 0 ≤ (x6_2 : Int) := of_decide_eq_true (by first | (with_reducible assumption) | assumption)
            have q162 : x6_2 < (l0_0.length : Int) := of_decide_eq_true (by first | (with_reducible assumption) | assumption)
            obtain ⟨ad162, e162, hx162_0⟩ := Kd.at_int HR0_0.out x6_2 p162 q162
            cases e162
            replace hx162_0 := (HB.out.cell (World.block_lt_of_cell? w _ hx162_0)).trans hx162_0
            replace p162 := eq_true p162
            replace q162 := eq_true q162
            go_wp2_with (first | (go_at_call 23; (with_reducible refine (sobriquetref05_in.calls (rd l0_0 x6_2) 0 (wrap64 ((wrap64 ((l0_1.length : Int) / 256)) - 1)) false _ A16.out).mono ?_); rintro e w' ⟨rfl, ⟨nd, rfl⟩⟩; (try first | exact ⟨rfl, _, World.drewN_drewN _ _ _⟩ | exact ⟨rfl, _, Eq.trans (World.drewN_drewN _ _ _) (congrArg (World.drewN _) (Nat.add_assoc _ _ _))⟩)))
            repeat (go_quiet (first | (go_at_call 23; (with_reducible refine (sobriquetref05_in.calls (rd l0_0 x6_2) 0 (wrap64 ((wrap64 ((l0_1.length : Int) / 256)) - 1)) false _ A16.out).mono ?_); rintro e w' ⟨rfl, ⟨nd, rfl⟩⟩; (try first | exact ⟨rfl, _, World.drewN_drewN _ _ _⟩ | exact ⟨rfl, _, Eq.trans (World.drewN_drewN _ _ _) (congrArg (World.drewN _) (Nat.add_assoc _ _ _))⟩))); try go_wp2_with (first | (go_at_call 23; (with_reducible refine (sobriquetref05_in.calls (rd l0_0 x6_2) 0 (wrap64 ((wrap64 ((l0_1.length : Int) / 256)) - 1)) false _ A16.out).mono ?_); rintro e w' ⟨rfl, ⟨nd, rfl⟩⟩; (try first | exact ⟨rfl, _, World.drewN_drewN _ _ _⟩ | exact ⟨rfl, _, Eq.trans (World.drewN_drewN _ _ _) (congrArg (World.drewN _) (Nat.add_assoc _ _ _))⟩))))
            go_ret2
            exact ⟨_, by first | rfl | (simp [errW_none, errW_some] <;> rfl) | (simp [*, errW_none, errW_some] <;> rfl), by first | exact Kd.R_nil _ _ _ _ _ | exact Kd.N_nil _ _ _ _ _ | exact Kd.V_nil _ _ _ _ _ | exact Kd.Q_nil _ _ _ _ _ | exact Kd.S_nil _ _ _ _ _, by repeat (first | (with_reducible first | exact HB.out | apply below_alloc | apply pw_below_drewN | apply below_drew1 | refine below_set ?_ GE159.out) | exact HB.out)⟩
          ·
           rw [if_neg c15] at H
           exact absurd H (by simp)
         ·
          rw [if_neg c14] at H
          exact absurd H (by simp)
        ·
         rw [if_neg c13] at H
         have c13b0 : decide (x6_2 < 4352) = false := decide_eq_false c13
         clear c13
         by_cases c74 : (x5_2.length : Int) > 2000
         ·
          rw [if_pos c74] at H
          have c74b0 : decide (2000 < (x5_2.length : Int)) = true := decide_eq_true c74
          have c74b1 : decide (2000 < x5_2.length) = true := decide_eq_true (by omega)
          clear c74
          simp only [Option.some.injEq, Prod.mk.injEq] at H
          obtain ⟨rfl, rfl⟩ := H
          obtain ⟨Ao75, co75, eo75⟩ := Kd.R_slice HO_5.out
          subst eo75
          go_wp2
          repeat (go_quiet (fail); try go_wp2)
          go_ret2
          exact ⟨_, by first | rfl | (simp [errW_none, errW_some] <;> rfl) | (simp [*, errW_none, errW_some] <;> rfl), by first | exact Kd.R_nil _ _ _ _ _ | exact Kd.N_nil _ _ _ _ _ | exact Kd.V_nil _ _ _ _ _ | exact Kd.Q_nil _ _ _ _ _ | exact Kd.S_nil _ _ _ _ _, by repeat (first | (with_reducible first | exact HB.out | apply below_alloc | apply pw_below_drewN | apply below_drew1 | refine below_set ?_ GE159.out) | exact HB.out)⟩
         ·
          rw [if_neg c74] at H
          have c74b0 : decide (2000 < (x5_2.length : Int)) = false := decide_eq_false c74
          have c74b1 : decide (2000 < x5_2.length) = false := decide_eq_false (by omega)
          clear c74
          simp only [Option.some.injEq, Prod.mk.injEq] at H
          obtain ⟨rfl, rfl⟩ := H
          obtain ⟨Ao76, co76, eo76⟩ := Kd.R_slice HO_5.out
          subst eo76
          go_wp2
          repeat (go_quiet (fail); try go_wp2)
          go_ret2
          exact ⟨_, by first | rfl | (simp [errW_none, errW_some] <;> rfl) | (simp [*, errW_none, errW_some] <;> rfl), by (with_reducible repeat (first | apply Kd.R_alloc | apply Kd.R_drewN | apply Kd.R_drew)); exact HO_5.out, by repeat (first | (with_reducible first | exact HB.out | apply below_alloc | apply pw_below_drewN | apply below_drew1 | refine below_set ?_ GE159.out) | exact HB.out)⟩
  ·
   rw [if_neg c3] at H
   have c3b0 : (((l0_1.length : Int) % 256) == 0) = false := beq_eq_false_iff_ne.mpr c3
   have c3b1 : (((l0_1.length : Int) % 256) != 0) = true := bne_iff_ne.mpr c3
   simp only [Option.some.injEq, Prod.mk.injEq] at H
   obtain ⟨rfl, rfl⟩ := H
   go_enter Try.func15, Try.ntmps15
   go_wp2_with (first | ((with_reducible refine gate_dst (N := 1) rfl ?_); (try (refine gate_guard (by rfl) ?_; dsimp only)); refine box_event ?hg (N := 1) ?hd (cs := #[.slice A0_0 l0_0.length c0_0, .slice A0_1 l0_1.length c0_1]) (t := 25) ?hr ?_; (case hd => rfl); (case hg => rfl); (case hr => first | (go_simp; done) | (go_simp; rfl)); intro gb159 hg w77 hbox hb; have n0_ := Aside0.mk (below_step (by repeat (first | (with_reducible first | exact HB.out | apply below_alloc | apply pw_below_drewN | apply below_drew1) | exact HB.out)) hb); have n1_ := Aside0.mk (hbox); have n2_ := Aside0.mk ((by rw [hg]; exact (below_size (by repeat (first | (with_reducible first | exact HB.out | apply below_alloc | apply pw_below_drewN | apply below_drew1) | exact HB.out))) : w.heap.size ≤ gb159)); have n3_ := Aside0.mk ((by rw [hg]; exact (below_size (by repeat (first | (with_reducible first | exact HB.out | apply below_alloc | apply pw_below_drewN | apply below_drew1) | exact HB.out))) : w.heap.size ≤ gb159)); clear HB; have HB := n0_; have BK159 := n1_; have GW159 := n2_; have GE159 := n3_; clear n0_ n1_ n2_ n3_; clear hb hbox hg; have hcz78_0 : w77.cell? ⟨gb159, 0, none⟩ = some (.slice A0_0 l0_0.length c0_0) := (blk_cell BK159.out 0).trans rfl; have hcz78_1 : w77.cell? ⟨gb159, 1, none⟩ = some (.slice A0_1 l0_1.length c0_1) := (blk_cell BK159.out 1).trans rfl; have hfz78_0 := blk_frozen BK159.out 0; have hfz78_1 := blk_frozen BK159.out 1))
   repeat (go_quiet (first | ((with_reducible refine gate_dst (N := 1) rfl ?_); (try (refine gate_guard (by rfl) ?_; dsimp only)); refine box_event ?hg (N := 1) ?hd (cs := #[.slice A0_0 l0_0.length c0_0, .slice A0_1 l0_1.length c0_1]) (t := 25) ?hr ?_; (case hd => rfl); (case hg => rfl); (case hr => first | (go_simp; done) | (go_simp; rfl)); intro gb159 hg w77 hbox hb; have n0_ := Aside0.mk (below_step (by repeat (first | (with_reducible first | exact HB.out | apply below_alloc | apply pw_below_drewN | apply below_drew1) | exact HB.out)) hb); have n1_ := Aside0.mk (hbox); have n2_ := Aside0.mk ((by rw [hg]; exact (below_size (by repeat (first | (with_reducible first | exact HB.out | apply below_alloc | apply pw_below_drewN | apply below_drew1) | exact HB.out))) : w.heap.size ≤ gb159)); have n3_ := Aside0.mk ((by rw [hg]; exact (below_size (by repeat (first | (with_reducible first | exact HB.out | apply below_alloc | apply pw_below_drewN | apply below_drew1) | exact HB.out))) : w.heap.size ≤ gb159)); clear HB; have HB := n0_; have BK159 := n1_; have GW159 := n2_; have GE159 := n3_; clear n0_ n1_ n2_ n3_; clear hb hbox hg; have hcz78_0 : w77.cell? ⟨gb159, 0, none⟩ = some (.slice A0_0 l0_0.length c0_0) := (blk_cell BK159.out 0).trans rfl; have hcz78_1 : w77.cell? ⟨gb159, 1, none⟩ = some (.slice A0_1 l0_1.length c0_1) := (blk_cell BK159.out 1).trans rfl; have hfz78_0 := blk_frozen BK159.out 0; have hfz78_1 := blk_frozen BK159.out 1)); try go_wp2_with (first | ((with_reducible refine gate_dst (N := 1) rfl ?_); (try (refine gate_guard (by rfl) ?_; dsimp only)); refine box_event ?hg (N := 1) ?hd (cs := #[.slice A0_0 l0_0.length c0_0, .slice A0_1 l0_1.length c0_1]) (t := 25) ?hr ?_; (case hd => rfl); (case hg => rfl); (case hr => first | (go_simp; done) | (go_simp; rfl)); intro gb159 hg w77 hbox hb; have n0_ := Aside0.mk (below_step (by repeat (first | (with_reducible first | exact HB.out | apply below_alloc | apply pw_below_drewN | apply below_drew1) | exact HB.out)) hb); have n1_ := Aside0.mk (hbox); have n2_ := Aside0.mk ((by rw [hg]; exact (below_size (by repeat (first | (with_reducible first | exact HB.out | apply below_alloc | apply pw_below_drewN | apply below_drew1) | exact HB.out))) : w.heap.size ≤ gb159)); have n3_ := Aside0.mk ((by rw [hg]; exact (below_size (by repeat (first | (with_reducible first | exact HB.out | apply below_alloc | apply pw_below_drewN | apply below_drew1) | exact HB.out))) : w.heap.size ≤ gb159)); clear HB; have HB := n0_; have BK159 := n1_; have GW159 := n2_; have GE159 := n3_; clear n0_ n1_ n2_ n3_; clear hb hbox hg; have hcz78_0 : w77.cell? ⟨gb159, 0, none⟩ = some (.slice A0_0 l0_0.length c0_0) := (blk_cell BK159.out 0).trans rfl; have hcz78_1 : w77.cell? ⟨gb159, 1, none⟩ = some (.slice A0_1 l0_1.length c0_1) := (blk_cell BK159.out 1).trans rfl; have hfz78_0 := blk_frozen BK159.out 0; have hfz78_1 := blk_frozen BK159.out 1)))
   go_ret2
   exact ⟨_, by first | rfl | (simp [errW_none, errW_some] <;> rfl) | (simp [*, errW_none, errW_some] <;> rfl), by first | exact Kd.R_nil _ _ _ _ _ | exact Kd.N_nil _ _ _ _ _ | exact Kd.V_nil _ _ _ _ _ | exact Kd.Q_nil _ _ _ _ _ | exact Kd.S_nil _ _ _ _ _, by repeat (first | (with_reducible first | exact HB.out | apply below_alloc | apply pw_below_drewN | apply below_drew1 | refine below_set ?_ GE159.out) | exact HB.out)⟩
 ·
  rw [if_neg c2] at H
  have c2b0 : ((l0_0.length : Int) == 4352) = false := beq_eq_false_iff_ne.mpr c2
  have c2b1 : ((l0_0.length : Int) != 4352) = true := bne_iff_ne.mpr c2
  simp only [Option.some.injEq, Prod.mk.injEq] at H
  obtain ⟨rfl, rfl⟩ := H
  go_enter Try.func15, Try.ntmps15
  go_wp2_with (first | ((with_reducible refine gate_dst (N := 1) rfl ?_); (try (refine gate_guard (by rfl) ?_; dsimp only)); refine box_event ?hg (N := 1) ?hd (cs := #[.slice A0_0 l0_0.length c0_0, .slice A0_1 l0_1.length c0_1]) (t := 25) ?hr ?_; (case hd => rfl); (case hg => rfl); (case hr => first | (go_simp; done) | (go_simp; rfl)); intro gb159 hg w79 hbox hb; have n0_ := Aside0.mk (below_step (by repeat (first | (with_reducible first | exact HB.out | apply below_alloc | apply pw_below_drewN | apply below_drew1) | exact HB.out)) hb); have n1_ := Aside0.mk (hbox); have n2_ := Aside0.mk ((by rw [hg]; exact (below_size (by repeat (first | (with_reducible first | exact HB.out | apply below_alloc | apply pw_below_drewN | apply below_drew1) | exact HB.out))) : w.heap.size ≤ gb159)); have n3_ := Aside0.mk ((by rw [hg]; exact (below_size (by repeat (first | (with_reducible first | exact HB.out | apply below_alloc | apply pw_below_drewN | apply below_drew1) | exact HB.out))) : w.heap.size ≤ gb159)); clear HB; have HB := n0_; have BK159 := n1_; have GW159 := n2_; have GE159 := n3_; clear n0_ n1_ n2_ n3_; clear hb hbox hg; have hcz80_0 : w79.cell? ⟨gb159, 0, none⟩ = some (.slice A0_0 l0_0.length c0_0) := (blk_cell BK159.out 0).trans rfl; have hcz80_1 : w79.cell? ⟨gb159, 1, none⟩ = some (.slice A0_1 l0_1.length c0_1) := (blk_cell BK159.out 1).trans rfl; have hfz80_0 := blk_frozen BK159.out 0; have hfz80_1 := blk_frozen BK159.out 1))
  repeat (go_quiet (first | ((with_reducible refine gate_dst (N := 1) rfl ?_); (try (refine gate_guard (by rfl) ?_; dsimp only)); refine box_event ?hg (N := 1) ?hd (cs := #[.slice A0_0 l0_0.length c0_0, .slice A0_1 l0_1.length c0_1]) (t := 25) ?hr ?_; (case hd => rfl); (case hg => rfl); (case hr => first | (go_simp; done) | (go_simp; rfl)); intro gb159 hg w79 hbox hb; have n0_ := Aside0.mk (below_step (by repeat (first | (with_reducible first | exact HB.out | apply below_alloc | apply pw_below_drewN | apply below_drew1) | exact HB.out)) hb); have n1_ := Aside0.mk (hbox); have n2_ := Aside0.mk ((by rw [hg]; exact (below_size (by repeat (first | (with_reducible first | exact HB.out | apply below_alloc | apply pw_below_drewN | apply below_drew1) | exact HB.out))) : w.heap.size ≤ gb159)); have n3_ := Aside0.mk ((by rw [hg]; exact (below_size (by repeat (first | (with_reducible first | exact HB.out | apply below_alloc | apply pw_below_drewN | apply below_drew1) | exact HB.out))) : w.heap.size ≤ gb159)); clear HB; have HB := n0_; have BK159 := n1_; have GW159 := n2_; have GE159 := n3_; clear n0_ n1_ n2_ n3_; clear hb hbox hg; have hcz80_0 : w79.cell? ⟨gb159, 0, none⟩ = some (.slice A0_0 l0_0.length c0_0) := (blk_cell BK159.out 0).trans rfl; have hcz80_1 : w79.cell? ⟨gb159, 1, none⟩ = some (.slice A0_1 l0_1.length c0_1) := (blk_cell BK159.out 1).trans rfl; have hfz80_0 := blk_frozen BK159.out 0; have hfz80_1 := blk_frozen BK159.out 1)); try go_wp2_with (first | ((with_reducible refine gate_dst (N := 1) rfl ?_); (try (refine gate_guard (by rfl) ?_; dsimp only)); refine box_event ?hg (N := 1) ?hd (cs := #[.slice A0_0 l0_0.length c0_0, .slice A0_1 l0_1.length c0_1]) (t := 25) ?hr ?_; (case hd => rfl); (case hg => rfl); (case hr => first | (go_simp; done) | (go_simp; rfl)); intro gb159 hg w79 hbox hb; have n0_ := Aside0.mk (below_step (by repeat (first | (with_reducible first | exact HB.out | apply below_alloc | apply pw_below_drewN | apply below_drew1) | exact HB.out)) hb); have n1_ := Aside0.mk (hbox); have n2_ := Aside0.mk ((by rw [hg]; exact (below_size (by repeat (first | (with_reducible first | exact HB.out | apply below_alloc | apply pw_below_drewN | apply below_drew1) | exact HB.out))) : w.heap.size ≤ gb159)); have n3_ := Aside0.mk ((by rw [hg]; exact (below_size (by repeat (first | (with_reducible first | exact HB.out | apply below_alloc | apply pw_below_drewN | apply below_drew1) | exact HB.out))) : w.heap.size ≤ gb159)); clear HB; have HB := n0_; have BK159 := n1_; have GW159 := n2_; have GE159 := n3_; clear n0_ n1_ n2_ n3_; clear hb hbox hg; have hcz80_0 : w79.cell? ⟨gb159, 0, none⟩ = some (.slice A0_0 l0_0.length c0_0) := (blk_cell BK159.out 0).trans rfl; have hcz80_1 : w79.cell? ⟨gb159, 1, none⟩ = some (.slice A0_1 l0_1.length c0_1) := (blk_cell BK159.out 1).trans rfl; have hfz80_0 := blk_frozen BK159.out 0; have hfz80_1 := blk_frozen BK159.out 1)))
  go_ret2
  exact ⟨_, by first | rfl | (simp [errW_none, errW_some] <;> rfl) | (simp [*, errW_none, errW_some] <;> rfl), by first | exact Kd.R_nil _ _ _ _ _ | exact Kd.N_nil _ _ _ _ _ | exact Kd.V_nil _ _ _ _ _ | exact Kd.Q_nil _ _ _ _ _ | exact Kd.S_nil _ _ _ _ _, by repeat (first | (with_reducible first | exact HB.out | apply below_alloc | apply pw_below_drewN | apply below_drew1 | refine below_set ?_ GE159.out) | exact HB.out)⟩

end Go.Proofs.Ytaniolefeieliaa.MRangesExact
