-- Written by a program of this session over the translation; checked by Lean alone.
import Derived.Test.YtogbpdmncnldhaaMWellExactx0
import Derived.Test.YtogbpdmncnldhaaMWellExactx1
import Derived.Test.YtogbpdmncnldhaaMWellExactx2
import Derived.Test.YtogbpdmncnldhaaMWellExactx3
namespace Go.Proofs.Ytogbpdmncnldhaa.MWellExact
open Go.RowKit Go.Proofs.YtogbpdmncnldhaaW.PrintWords Go.Proofs.YtogbpdmncnldhaaW.PrintLast Go.Proofs.YtogbpdmncnldhaaW.PrintMore
attribute [local go_sem] max2_int min2_int max_two min_two max_three min_three max_four min_four   -- for this text's walks alone
set_option linter.unusedVariables false
set_option linter.unusedSimpArgs false
set_option linter.unnecessarySimpa false

/-! ### sobriquetlaw02_WellExact: function 3 -/
mutual
def sobriquetlaw02_WellExact.j0 : Nat → List Int → List (List Int) → Int → Int → Int → Int → Int → Bool → Option (Bool)
  | 0, _, _, _, _, _, _, _, _ => none
  | k + 1, x0, x6, x7, x8, x9, x11, x12, x54 => if x54 = true then (some false) else (if x11 = 0 then ((sobriquetref01_Read.f k x0).bind fun bt197 => (if x9 = 0 then (sobriquetlaw02_WellExact.j1 k x0 x6 x7 (x8 != x12) bt197.1 bt197.2.1 bt197.2.2.1 bt197.2.2.2.1 bt197.2.2.2.2.1) else (sobriquetlaw02_WellExact.j1 k x0 x6 x7 true bt197.1 bt197.2.1 bt197.2.2.1 bt197.2.2.2.1 bt197.2.2.2.2.1))) else (if x7 = x11 then (if x9 = x11 then (if x8 = 0 then (if (x6.length : Int) = 0 then ((sobriquetlaw02_wakes.f k).bind fun t196 => (some t196)) else (some false)) else (some false)) else (some false)) else (some false)))
def sobriquetlaw02_WellExact.j1 : Nat → List Int → List (List Int) → Int → Bool → Int → Int → Bool → Int → Int → Option (Bool)
  | 0, _, _, _, _, _, _, _, _, _ => none
  | k + 1, x0, x6, x7, x88, x204000, x204001, x204002, x204003, x204004 => if x88 = true then (some false) else (if x204002 = true then (if x7 = 0 then (if 0 ≤ x204004 then (if x204004 ≤ (x0.length : Int) then ((sobriquetref01_Parts.f k (x0.drop (x204004 : Int).toNat)).bind fun t206 => ((sobriquetkeep_Rows.f k x6 t206).bind fun t209 => (if t209 = true then ((sobriquetlaw02_wakes.f k).bind fun t210 => (some t210)) else (some false)))) else (none)) else (none)) else (some false)) else (if x7 = 7 then (if (x6.length : Int) = 0 then ((sobriquetlaw02_wakes.f k).bind fun t204 => (some t204)) else (some false)) else (some false)))
end
def sobriquetlaw02_WellExact.f (k : Nat) (l0 : List Int) : Option (Bool) := if (l0.length : Int) > 700 then (some true) else ((sobriquetkeep_Twin.f l0).bind fun t181 => ((well_Check.f k t181).bind fun bt184 => ((well_Parts.f k t181).bind fun bt186 => ((well_Depth.f k t181).bind fun bt190 => ((sobriquetref01_Well.f k l0).bind fun bt192 => (if bt184.1 = bt192.1 then (if bt184.2 = bt192.2.1 then ((sobriquetkeep_Bytes.f k t181 l0).bind fun t195 => (sobriquetlaw02_WellExact.j0 k l0 bt186.1 bt186.2 bt190.1 bt190.2 bt192.2.1 bt192.2.2 (!t195))) else (sobriquetlaw02_WellExact.j0 k l0 bt186.1 bt186.2 bt190.1 bt190.2 bt192.2.1 bt192.2.2 true)) else (sobriquetlaw02_WellExact.j0 k l0 bt186.1 bt186.2 bt190.1 bt190.2 bt192.2.1 bt192.2.2 true)))))))
theorem sobriquetlaw02_WellExact.mono_l : ∀ k, (∀ y0 y1 y2 y3 y4 y5 y6 y7, LeO (sobriquetlaw02_WellExact.j0 k y0 y1 y2 y3 y4 y5 y6 y7) (sobriquetlaw02_WellExact.j0 (k + 1) y0 y1 y2 y3 y4 y5 y6 y7)) ∧ (∀ y0 y1 y2 y3 y4 y5 y6 y7 y8, LeO (sobriquetlaw02_WellExact.j1 k y0 y1 y2 y3 y4 y5 y6 y7 y8) (sobriquetlaw02_WellExact.j1 (k + 1) y0 y1 y2 y3 y4 y5 y6 y7 y8))
  | 0 => ⟨fun _ _ _ _ _ _ _ _ r h => by simp [sobriquetlaw02_WellExact.j0] at h, fun _ _ _ _ _ _ _ _ _ r h => by simp [sobriquetlaw02_WellExact.j1] at h⟩
  | k + 1 => by
    obtain ⟨ih0, ih1⟩ := sobriquetlaw02_WellExact.mono_l k
    refine ⟨?_, ?_⟩
    · intro y0 y1 y2 y3 y4 y5 y6 y7
      unfold sobriquetlaw02_WellExact.j0
      repeat' first
      | (with_reducible exact ih0 _ _ _ _ _ _ _ _)
      | (with_reducible exact ih1 _ _ _ _ _ _ _ _ _)
      | (with_reducible exact sobriquetkeep_Bytes.mono _ _ _)
      | (with_reducible exact sobriquetkeep_Rows.mono _ _ _)
      | (with_reducible exact sobriquetlaw02_wakes.mono _)
      | (with_reducible exact sobriquetref01_Parts.mono _ _)
      | (with_reducible exact sobriquetref01_Read.mono _ _)
      | (with_reducible exact sobriquetref01_Well.mono _ _)
      | (with_reducible exact well_Check.mono _ _)
      | (with_reducible exact well_Depth.mono _ _)
      | (with_reducible exact well_Parts.mono _ _)
      | (with_reducible exact LeO.refl _)
      | (with_reducible exact LeO.none _)
      | (with_reducible refine LeO.ite ?_ ?_)
      | (with_reducible refine LeO.bind ?_ (fun _ => ?_))
      | exact ih0 _ _ _ _ _ _ _ _
      | exact ih1 _ _ _ _ _ _ _ _ _
      | exact sobriquetkeep_Bytes.mono _ _ _
      | exact sobriquetkeep_Rows.mono _ _ _
      | exact sobriquetlaw02_wakes.mono _
      | exact sobriquetref01_Parts.mono _ _
      | exact sobriquetref01_Read.mono _ _
      | exact sobriquetref01_Well.mono _ _
      | exact well_Check.mono _ _
      | exact well_Depth.mono _ _
      | exact well_Parts.mono _ _
      | exact LeO.none _
      | refine LeO.ite ?_ ?_
      | refine LeO.bind ?_ (fun _ => ?_)
    · intro y0 y1 y2 y3 y4 y5 y6 y7 y8
      unfold sobriquetlaw02_WellExact.j1
      repeat' first
      | (with_reducible exact ih0 _ _ _ _ _ _ _ _)
      | (with_reducible exact ih1 _ _ _ _ _ _ _ _ _)
      | (with_reducible exact sobriquetkeep_Bytes.mono _ _ _)
      | (with_reducible exact sobriquetkeep_Rows.mono _ _ _)
      | (with_reducible exact sobriquetlaw02_wakes.mono _)
      | (with_reducible exact sobriquetref01_Parts.mono _ _)
      | (with_reducible exact sobriquetref01_Read.mono _ _)
      | (with_reducible exact sobriquetref01_Well.mono _ _)
      | (with_reducible exact well_Check.mono _ _)
      | (with_reducible exact well_Depth.mono _ _)
      | (with_reducible exact well_Parts.mono _ _)
      | (with_reducible exact LeO.refl _)
      | (with_reducible exact LeO.none _)
      | (with_reducible refine LeO.ite ?_ ?_)
      | (with_reducible refine LeO.bind ?_ (fun _ => ?_))
      | exact ih0 _ _ _ _ _ _ _ _
      | exact ih1 _ _ _ _ _ _ _ _ _
      | exact sobriquetkeep_Bytes.mono _ _ _
      | exact sobriquetkeep_Rows.mono _ _ _
      | exact sobriquetlaw02_wakes.mono _
      | exact sobriquetref01_Parts.mono _ _
      | exact sobriquetref01_Read.mono _ _
      | exact sobriquetref01_Well.mono _ _
      | exact well_Check.mono _ _
      | exact well_Depth.mono _ _
      | exact well_Parts.mono _ _
      | exact LeO.none _
      | refine LeO.ite ?_ ?_
      | refine LeO.bind ?_ (fun _ => ?_)
theorem sobriquetlaw02_WellExact.mono : ∀ a0 k, LeO (sobriquetlaw02_WellExact.f k a0) (sobriquetlaw02_WellExact.f (k + 1) a0) := by
  intro a0 k
  obtain ⟨ih0, ih1⟩ := sobriquetlaw02_WellExact.mono_l k
  unfold sobriquetlaw02_WellExact.f
  repeat' first
      | (with_reducible exact ih0 _ _ _ _ _ _ _ _)
      | (with_reducible exact ih1 _ _ _ _ _ _ _ _ _)
      | (with_reducible exact sobriquetkeep_Bytes.mono _ _ _)
      | (with_reducible exact sobriquetkeep_Rows.mono _ _ _)
      | (with_reducible exact sobriquetlaw02_wakes.mono _)
      | (with_reducible exact sobriquetref01_Parts.mono _ _)
      | (with_reducible exact sobriquetref01_Read.mono _ _)
      | (with_reducible exact sobriquetref01_Well.mono _ _)
      | (with_reducible exact well_Check.mono _ _)
      | (with_reducible exact well_Depth.mono _ _)
      | (with_reducible exact well_Parts.mono _ _)
      | (with_reducible exact LeO.refl _)
      | (with_reducible exact LeO.none _)
      | (with_reducible refine LeO.ite ?_ ?_)
      | (with_reducible refine LeO.bind ?_ (fun _ => ?_))
      | exact ih0 _ _ _ _ _ _ _ _
      | exact ih1 _ _ _ _ _ _ _ _ _
      | exact sobriquetkeep_Bytes.mono _ _ _
      | exact sobriquetkeep_Rows.mono _ _ _
      | exact sobriquetlaw02_wakes.mono _
      | exact sobriquetref01_Parts.mono _ _
      | exact sobriquetref01_Read.mono _ _
      | exact sobriquetref01_Well.mono _ _
      | exact well_Check.mono _ _
      | exact well_Depth.mono _ _
      | exact well_Parts.mono _ _
      | exact LeO.none _
      | refine LeO.ite ?_ ?_
      | refine LeO.bind ?_ (fun _ => ?_)
set_option maxHeartbeats 8000000 in
set_option maxRecDepth 100000 in
theorem sobriquetlaw02_WellExact.calls (k : Nat) (A0 : Option Addr) (c0 : Nat) (l0 : List Int) (r : Bool) (w : World) (hr0 : Kd.C (Kd.int .u8) w A0 l0.length l0) (hc0 : l0.length ≤ c0) (h : sobriquetlaw02_WellExact.f k l0 = some r) (hrt0 : r = true) :
    Calls Try.prog 3 #[.slice A0 l0.length c0] w fun e w' => e = .returned (.bool r) ∧ Below w.heap.size w w' := by
  have hu35 := Try.underlying35
  have HR0 := Aside0.mk hr0
  have HC0 := Aside0.mk hc0
  clear hr0 hc0
  have HB := Aside0.mk (Below.refl w.heap.size w)
  have hrt := Aside0.mk hrt0
  clear hrt0
  have H : (if (l0.length : Int) > 700 then (some true) else ((sobriquetkeep_Twin.f l0).bind fun t181 => ((well_Check.f k t181).bind fun bt184 => ((well_Parts.f k t181).bind fun bt186 => ((well_Depth.f k t181).bind fun bt190 => ((sobriquetref01_Well.f k l0).bind fun bt192 => (if bt184.1 = bt192.1 then (if bt184.2 = bt192.2.1 then ((sobriquetkeep_Bytes.f k t181 l0).bind fun t195 => (sobriquetlaw02_WellExact.j0 k l0 bt186.1 bt186.2 bt190.1 bt190.2 bt192.2.1 bt192.2.2 (!t195))) else (sobriquetlaw02_WellExact.j0 k l0 bt186.1 bt186.2 bt190.1 bt190.2 bt192.2.1 bt192.2.2 true)) else (sobriquetlaw02_WellExact.j0 k l0 bt186.1 bt186.2 bt190.1 bt190.2 bt192.2.1 bt192.2.2 true)))))))) = some r := h
  clear h
  by_cases c2 : (l0.length : Int) > 700
  · rw [if_pos c2] at H
    have c2b0 : decide (700 < (l0.length : Int)) = true := decide_eq_true c2
    have c2b1 : decide (700 < l0.length) = true := decide_eq_true (by omega)
    clear c2
    obtain rfl := Option.some.inj H
    go_enter Try.func3, Try.ntmps3
    go_wp2
    go_ret
    exact ⟨by first | rfl | (simp [errW_none, errW_some] <;> rfl) | (simp [*, errW_none, errW_some] <;> rfl), by repeat (first | (with_reducible first | exact HB.out | apply below_alloc | apply pw_below_drewN | apply below_drew1) | exact HB.out)⟩
  · rw [if_neg c2] at H
    have c2b0 : decide (700 < (l0.length : Int)) = false := decide_eq_false c2
    have c2b1 : decide (700 < l0.length) = false := decide_eq_false (by omega)
    clear c2
    replace H := Option.bind_eq_some_iff.mp H
    obtain ⟨t181, A30, H⟩ := H
    replace H : ((well_Check.f k t181).bind fun bt184 => ((well_Parts.f k t181).bind fun bt186 => ((well_Depth.f k t181).bind fun bt190 => ((sobriquetref01_Well.f k l0).bind fun bt192 => (if bt184.1 = bt192.1 then (if bt184.2 = bt192.2.1 then ((sobriquetkeep_Bytes.f k t181 l0).bind fun t195 => (sobriquetlaw02_WellExact.j0 k l0 bt186.1 bt186.2 bt190.1 bt190.2 bt192.2.1 bt192.2.2 (!t195))) else (sobriquetlaw02_WellExact.j0 k l0 bt186.1 bt186.2 bt190.1 bt190.2 bt192.2.1 bt192.2.2 true)) else (sobriquetlaw02_WellExact.j0 k l0 bt186.1 bt186.2 bt190.1 bt190.2 bt192.2.1 bt192.2.2 true)))))) = some r := H
    have A3 := Aside0.mk A30
    clear A30
    replace H := Option.bind_eq_some_iff.mp H
    obtain ⟨⟨t184, t185⟩, A40, H⟩ := H
    replace H : ((well_Parts.f k t181).bind fun bt186 => ((well_Depth.f k t181).bind fun bt190 => ((sobriquetref01_Well.f k l0).bind fun bt192 => (if t184 = bt192.1 then (if t185 = bt192.2.1 then ((sobriquetkeep_Bytes.f k t181 l0).bind fun t195 => (sobriquetlaw02_WellExact.j0 k l0 bt186.1 bt186.2 bt190.1 bt190.2 bt192.2.1 bt192.2.2 (!t195))) else (sobriquetlaw02_WellExact.j0 k l0 bt186.1 bt186.2 bt190.1 bt190.2 bt192.2.1 bt192.2.2 true)) else (sobriquetlaw02_WellExact.j0 k l0 bt186.1 bt186.2 bt190.1 bt190.2 bt192.2.1 bt192.2.2 true))))) = some r := H
    have A4 := Aside0.mk A40
    clear A40
    replace H := Option.bind_eq_some_iff.mp H
    obtain ⟨⟨t186, t187⟩, A50, H⟩ := H
    replace H : ((well_Depth.f k t181).bind fun bt190 => ((sobriquetref01_Well.f k l0).bind fun bt192 => (if t184 = bt192.1 then (if t185 = bt192.2.1 then ((sobriquetkeep_Bytes.f k t181 l0).bind fun t195 => (sobriquetlaw02_WellExact.j0 k l0 t186 t187 bt190.1 bt190.2 bt192.2.1 bt192.2.2 (!t195))) else (sobriquetlaw02_WellExact.j0 k l0 t186 t187 bt190.1 bt190.2 bt192.2.1 bt192.2.2 true)) else (sobriquetlaw02_WellExact.j0 k l0 t186 t187 bt190.1 bt190.2 bt192.2.1 bt192.2.2 true)))) = some r := H
    have A5 := Aside0.mk A50
    clear A50
    replace H := Option.bind_eq_some_iff.mp H
    obtain ⟨⟨t190, t191⟩, A60, H⟩ := H
    replace H : ((sobriquetref01_Well.f k l0).bind fun bt192 => (if t184 = bt192.1 then (if t185 = bt192.2.1 then ((sobriquetkeep_Bytes.f k t181 l0).bind fun t195 => (sobriquetlaw02_WellExact.j0 k l0 t186 t187 t190 t191 bt192.2.1 bt192.2.2 (!t195))) else (sobriquetlaw02_WellExact.j0 k l0 t186 t187 t190 t191 bt192.2.1 bt192.2.2 true)) else (sobriquetlaw02_WellExact.j0 k l0 t186 t187 t190 t191 bt192.2.1 bt192.2.2 true))) = some r := H
    have A6 := Aside0.mk A60
    clear A60
    replace H := Option.bind_eq_some_iff.mp H
    obtain ⟨⟨t192, t193, t194⟩, A70, H⟩ := H
    replace H : (if t184 = t192 then (if t185 = t193 then ((sobriquetkeep_Bytes.f k t181 l0).bind fun t195 => (sobriquetlaw02_WellExact.j0 k l0 t186 t187 t190 t191 t193 t194 (!t195))) else (sobriquetlaw02_WellExact.j0 k l0 t186 t187 t190 t191 t193 t194 true)) else (sobriquetlaw02_WellExact.j0 k l0 t186 t187 t190 t191 t193 t194 true)) = some r := H
    have A7 := Aside0.mk A70
    clear A70
    have HC8 := Aside0.mk H
    clear H
    go_enter Try.func3, Try.ntmps3
    go_upto_region 8 with (first | ((with_reducible refine gate_callee (f := 10) rfl ?_); refine goesL_ (some 19) rfl rfl Try.func10 (by kernel_rfl) rfl #[.slice A0 l0.length c0] rfl (by (try simp only [List.map_toArray, List.map_cons, List.map_nil]); first | done | rfl | (simp only [List.length_drop, List.length_take]; rfl)) ?_; (with_reducible refine (sobriquetkeep_Twin.calls _ _ l0 t181 _ ?side1 ?side2 A3.out).mono ?_); (case side1 => repeat (first | exact HR0.out | (with_reducible refine Kd.C_alloc ?_ _) | (with_reducible refine Kd.C_drewN ?_ _) | (with_reducible refine Kd.C_drew ?_))); (case side2 => exact HC0.out); rintro e w9 ⟨v182, rfl, ho0, hb⟩; refine ⟨_, rfl, ?_⟩; have n0_ := Aside0.mk (Kd.R_lower ho0 (below_size (by repeat (first | (with_reducible first | exact HB.out | apply below_alloc | apply pw_below_drewN | apply below_drew1) | exact HB.out)))); have n1_ := Aside0.mk (below_step (by repeat (first | (with_reducible first | exact HB.out | apply below_alloc | apply pw_below_drewN | apply below_drew1) | exact HB.out)) hb); clear HB; have HO183 := n0_; have HB := n1_; clear n0_ n1_; (try clear hb); (try clear hb2); (try clear hk); (try clear hi); (try clear ho0); obtain ⟨Ao10, co10, eo10⟩ := Kd.R_slice HO183.out; subst eo10) | ((with_reducible refine gate_callee (f := 11) rfl ?_); refine goesL_ (some 22) rfl rfl Try.func11 (by kernel_rfl) rfl #[.slice Ao10 t181.length co10] rfl (by (try simp only [List.map_toArray, List.map_cons, List.map_nil]); first | done | rfl | (simp only [List.length_drop, List.length_take]; rfl)) ?_; (with_reducible refine (well_Check.calls k _ _ t181 t184 t185 _ ?side1 ?side2 A4.out).mono ?_); (case side1 => repeat (first | exact (Kd.R_reads' HO183.out).2.2 | (with_reducible refine Kd.C_alloc ?_ _) | (with_reducible refine Kd.C_drewN ?_ _) | (with_reducible refine Kd.C_drew ?_))); (case side2 => exact (Kd.R_reads' HO183.out).2.1); rintro e w11 ⟨rfl, hb⟩; refine ⟨_, rfl, ?_⟩; have n0_ := Aside0.mk (Kd.R_below (by (with_reducible repeat (first | apply Kd.R_alloc | apply Kd.R_drewN | apply Kd.R_drew)); exact HO183.out) hb); have n1_ := Aside0.mk (below_step (by repeat (first | (with_reducible first | exact HB.out | apply below_alloc | apply pw_below_drewN | apply below_drew1) | exact HB.out)) hb); clear HO183; clear HB; have HO183 := n0_; have HB := n1_; clear n0_ n1_; (try clear hb); (try clear hb2); (try clear hk); (try clear hi)) | ((with_reducible refine gate_callee (f := 12) rfl ?_); refine goesL_ (some 27) rfl rfl Try.func12 (by kernel_rfl) rfl #[.slice Ao10 t181.length co10] rfl (by (try simp only [List.map_toArray, List.map_cons, List.map_nil]); first | done | rfl | (simp only [List.length_drop, List.length_take]; rfl)) ?_; (with_reducible refine (well_Parts.calls k _ _ t181 t186 t187 _ ?side1 ?side2 A5.out).mono ?_); (case side1 => repeat (first | exact (Kd.R_reads' HO183.out).2.2 | (with_reducible refine Kd.C_alloc ?_ _) | (with_reducible refine Kd.C_drewN ?_ _) | (with_reducible refine Kd.C_drew ?_))); (case side2 => exact (Kd.R_reads' HO183.out).2.1); rintro e w12 ⟨v188, rfl, ho0, hb⟩; refine ⟨_, rfl, ?_⟩; have n0_ := Aside0.mk (Kd.R_below (by (with_reducible repeat (first | apply Kd.R_alloc | apply Kd.R_drewN | apply Kd.R_drew)); exact HO183.out) hb); have n1_ := Aside0.mk (Kd.S_lower (Kd.S_new' ho0 (Kd.R_lt (by (with_reducible repeat (first | apply Kd.R_alloc | apply Kd.R_drewN | apply Kd.R_drew)); exact HO183.out))) (below_size (by repeat (first | (with_reducible first | exact HB.out | apply below_alloc | apply pw_below_drewN | apply below_drew1) | exact HB.out)))); have n2_ := Aside0.mk (below_step (by repeat (first | (with_reducible first | exact HB.out | apply below_alloc | apply pw_below_drewN | apply below_drew1) | exact HB.out)) hb); clear HO183; clear HB; have HO183 := n0_; have HO189 := n1_; have HB := n2_; clear n0_ n1_ n2_; (try clear hb); (try clear hb2); (try clear hk); (try clear hi); (try clear ho0)) | ((with_reducible refine gate_callee (f := 13) rfl ?_); refine goesL_ (some 32) rfl rfl Try.func13 (by kernel_rfl) rfl #[.slice Ao10 t181.length co10] rfl (by (try simp only [List.map_toArray, List.map_cons, List.map_nil]); first | done | rfl | (simp only [List.length_drop, List.length_take]; rfl)) ?_; (with_reducible refine (well_Depth.calls k _ _ t181 t190 t191 _ ?side1 ?side2 A6.out).mono ?_); (case side1 => repeat (first | exact (Kd.R_reads' HO183.out).2.2 | (with_reducible refine Kd.C_alloc ?_ _) | (with_reducible refine Kd.C_drewN ?_ _) | (with_reducible refine Kd.C_drew ?_))); (case side2 => exact (Kd.R_reads' HO183.out).2.1); rintro e w13 ⟨rfl, hb⟩; refine ⟨_, rfl, ?_⟩; have n0_ := Aside0.mk (Kd.R_below (by (with_reducible repeat (first | apply Kd.R_alloc | apply Kd.R_drewN | apply Kd.R_drew)); exact HO183.out) hb); have n1_ := Aside0.mk (Kd.S_below (by (with_reducible repeat (first | apply Kd.S_alloc | apply Kd.S_drewN | apply Kd.S_drew)); exact HO189.out) hb); have n2_ := Aside0.mk (below_step (by repeat (first | (with_reducible first | exact HB.out | apply below_alloc | apply pw_below_drewN | apply below_drew1) | exact HB.out)) hb); clear HO183; clear HO189; clear HB; have HO183 := n0_; have HO189 := n1_; have HB := n2_; clear n0_ n1_ n2_; (try clear hb); (try clear hb2); (try clear hk); (try clear hi)) | ((with_reducible refine gate_callee (f := 14) rfl ?_); refine goesL_ (some 37) rfl rfl Try.func14 (by kernel_rfl) rfl #[.slice A0 l0.length c0] rfl (by (try simp only [List.map_toArray, List.map_cons, List.map_nil]); first | done | rfl | (simp only [List.length_drop, List.length_take]; rfl)) ?_; (with_reducible refine (sobriquetref01_Well.calls k _ _ l0 t192 t193 t194 _ ?side1 ?side2 A7.out).mono ?_); (case side1 => repeat (first | exact (Kd.C_below HR0.out HB.out) | (with_reducible refine Kd.C_alloc ?_ _) | (with_reducible refine Kd.C_drewN ?_ _) | (with_reducible refine Kd.C_drew ?_))); (case side2 => exact HC0.out); rintro e w14 ⟨rfl, hb⟩; refine ⟨_, rfl, ?_⟩; have n0_ := Aside0.mk (Kd.R_below (by (with_reducible repeat (first | apply Kd.R_alloc | apply Kd.R_drewN | apply Kd.R_drew)); exact HO183.out) hb); have n1_ := Aside0.mk (Kd.S_below (by (with_reducible repeat (first | apply Kd.S_alloc | apply Kd.S_drewN | apply Kd.S_drew)); exact HO189.out) hb); have n2_ := Aside0.mk (below_step (by repeat (first | (with_reducible first | exact HB.out | apply below_alloc | apply pw_below_drewN | apply below_drew1) | exact HB.out)) hb); clear HO183; clear HO189; clear HB; have HO183 := n0_; have HO189 := n1_; have HB := n2_; clear n0_ n1_ n2_; (try clear hb); (try clear hb2); (try clear hk); (try clear hi)))
    (try simp only [Act.put, List.setIfInBounds_toArray, List.set_cons_zero, List.set_cons_succ])
    go_cut [54] (fun v54 wc => ∃ (kq : Nat) (x54_7 : Bool), v54 = .bool x54_7 ∧ Aside0 (sobriquetlaw02_WellExact.j0 kq l0 t186 t187 t190 t191 t193 t194 x54_7 = some r) ∧ Aside0 (kq ≤ k) ∧ Aside0 (Kd.S (Kd.slice 5 (Kd.int .u8)) 22 wc w.heap.size (fun _ => True) v188 t186) ∧ Aside0 (Below w.heap.size w wc))
    case first =>
      have H := HC8.out
      clear HC8
      by_cases c15 : t184 = t192
      · rw [if_pos c15] at H
        have c15b0 : (t184 == t192) = true := beq_iff_eq.mpr c15
        have c15b1 : (t184 != t192) = false := bne_eq_false_iff_eq.mpr c15
        clear c15
        (first | rw [c15b0] | (simp only [i64_w, i32_w]; rw [c15b0]) | skip)
        by_cases c16 : t185 = t193
        · rw [if_pos c16] at H
          have c16b0 : (t185 == t193) = true := beq_iff_eq.mpr c16
          have c16b1 : (t185 != t193) = false := bne_eq_false_iff_eq.mpr c16
          clear c16
          replace H := Option.bind_eq_some_iff.mp H
          obtain ⟨t195, A170, H⟩ := H
          replace H : (sobriquetlaw02_WellExact.j0 k l0 t186 t187 t190 t191 t193 t194 (!t195)) = some r := H
          have A17 := Aside0.mk A170
          clear A170
          have H' := Aside0.mk H
          clear H
          go_wp2_with (first | (go_at_call 15; (with_reducible refine (sobriquetkeep_Bytes.calls k _ _ t181 _ _ l0 t195 _ ?side1 ?side2 ?side3 ?side4 A17.out).mono ?_); (case side1 => repeat (first | exact (Kd.R_reads' HO183.out).2.2 | (with_reducible refine Kd.C_alloc ?_ _) | (with_reducible refine Kd.C_drewN ?_ _) | (with_reducible refine Kd.C_drew ?_))); (case side2 => exact (Kd.R_reads' HO183.out).2.1); (case side3 => repeat (first | exact (Kd.C_below HR0.out HB.out) | (with_reducible refine Kd.C_alloc ?_ _) | (with_reducible refine Kd.C_drewN ?_ _) | (with_reducible refine Kd.C_drew ?_))); (case side4 => exact HC0.out); rintro e w' ⟨rfl, ⟨nd, rfl⟩⟩))
          go_meet
          case rel => exact ⟨_, (!t195), (by first | rfl | (simp; done) | (simp [*]; done)), H', ⟨by first | omega | exact Nat.le_refl _⟩, ⟨by (with_reducible repeat (first | apply Kd.S_alloc | apply Kd.S_drewN | apply Kd.S_drew)); exact Kd.S_mono HO189.out (fun _ hk => trivial)⟩, ⟨by repeat (first | (with_reducible first | exact HB.out | apply below_alloc | apply pw_below_drewN | apply below_drew1) | exact HB.out)⟩⟩
        · rw [if_neg c16] at H
          have c16b0 : (t185 == t193) = false := beq_eq_false_iff_ne.mpr c16
          have c16b1 : (t185 != t193) = true := bne_iff_ne.mpr c16
          have H' := Aside0.mk H
          clear H
          go_wp2
          go_meet
          case rel => exact ⟨_, (true), (by first | rfl | (simp; done) | (simp [*]; done)), H', ⟨by first | omega | exact Nat.le_refl _⟩, ⟨by (with_reducible repeat (first | apply Kd.S_alloc | apply Kd.S_drewN | apply Kd.S_drew)); exact Kd.S_mono HO189.out (fun _ hk => trivial)⟩, ⟨by repeat (first | (with_reducible first | exact HB.out | apply below_alloc | apply pw_below_drewN | apply below_drew1) | exact HB.out)⟩⟩
      · rw [if_neg c15] at H
        have c15b0 : (t184 == t192) = false := beq_eq_false_iff_ne.mpr c15
        have c15b1 : (t184 != t192) = true := bne_iff_ne.mpr c15
        (first | rw [c15b0] | (simp only [i64_w, i32_w]; rw [c15b0]) | skip)
        have H' := Aside0.mk H
        clear H
        go_wp2
        go_meet
        case rel => exact ⟨_, (true), (by first | rfl | (simp; done) | (simp [*]; done)), H', ⟨by first | omega | exact Nat.le_refl _⟩, ⟨by (with_reducible repeat (first | apply Kd.S_alloc | apply Kd.S_drewN | apply Kd.S_drew)); exact Kd.S_mono HO189.out (fun _ hk => trivial)⟩, ⟨by repeat (first | (with_reducible first | exact HB.out | apply below_alloc | apply pw_below_drewN | apply below_drew1) | exact HB.out)⟩⟩
    case rest =>
      clear HC8
      try clear c1
      try clear c2
      try clear c2b0
      try clear c2b1
      try clear p2
      try clear c3
      try clear c10
      try clear c11
      try clear c12
      try clear c13
      try clear c14
      try clear c15
      try clear c15b0
      try clear c15b1
      try clear c16
      try clear c16b0
      try clear c16b1
      obtain ⟨kq, x54_7, rfl, HA, HJ7, HO_6, HB⟩ := hcut
      cases kq with
      | zero => exact absurd HA.out (by simp [sobriquetlaw02_WellExact.j0])
      | succ kj7 =>
        have H := HA.out
        clear HA
        simp only [sobriquetlaw02_WellExact.j0] at H
        by_cases c18 : x54_7 = true
        · subst c18
          have H1 : (some false) = some r := by rw [if_pos rfl] at H; exact H
          clear H
          have H := H1
          clear H1
          exact absurd ((Option.some.inj H).trans hrt.out) (by decide)
        · replace c18 := Bool.eq_false_iff.mpr c18
          subst c18
          have H1 : (if t193 = 0 then ((sobriquetref01_Read.f kj7 l0).bind fun bt197 => (if t191 = 0 then (sobriquetlaw02_WellExact.j1 kj7 l0 t186 t187 (t190 != t194) bt197.1 bt197.2.1 bt197.2.2.1 bt197.2.2.2.1 bt197.2.2.2.2.1) else (sobriquetlaw02_WellExact.j1 kj7 l0 t186 t187 true bt197.1 bt197.2.1 bt197.2.2.1 bt197.2.2.2.1 bt197.2.2.2.2.1))) else (if t187 = t193 then (if t191 = t193 then (if t190 = 0 then (if (t186.length : Int) = 0 then ((sobriquetlaw02_wakes.f kj7).bind fun t196 => (some t196)) else (some false)) else (some false)) else (some false)) else (some false))) = some r := by rw [if_neg (show ¬ (false = true) by decide)] at H; exact H
          clear H
          have H := H1
          clear H1
          by_cases c19 : t193 = 0
          · rw [if_pos c19] at H
            have c19b0 : (t193 == 0) = true := beq_iff_eq.mpr c19
            have c19b1 : (t193 != 0) = false := bne_eq_false_iff_eq.mpr c19
            clear c19
            replace H := Option.bind_eq_some_iff.mp H
            obtain ⟨⟨t197, t198, t199, t200, t201, t202⟩, A200, H⟩ := H
            replace H : (if t191 = 0 then (sobriquetlaw02_WellExact.j1 kj7 l0 t186 t187 (t190 != t194) t197 t198 t199 t200 t201) else (sobriquetlaw02_WellExact.j1 kj7 l0 t186 t187 true t197 t198 t199 t200 t201)) = some r := H
            have A20 := Aside0.mk A200
            clear A200
            have HC21 := Aside0.mk H
            clear H
            go_upto_region 13 with (first | ((with_reducible refine gate_callee (f := 17) rfl ?_); refine goesL_ (some 79) rfl rfl Try.func17 (by kernel_rfl) rfl #[.slice A0 l0.length c0] rfl (by (try simp only [List.map_toArray, List.map_cons, List.map_nil]); first | done | rfl | (simp only [List.length_drop, List.length_take]; rfl)) ?_; (with_reducible refine (sobriquetref01_Read.calls kj7 _ _ l0 t197 t198 t199 t200 t201 t202 _ ?side1 ?side2 A20.out).mono ?_); (case side1 => repeat (first | exact (Kd.C_below HR0.out HB.out) | (with_reducible refine Kd.C_alloc ?_ _) | (with_reducible refine Kd.C_drewN ?_ _) | (with_reducible refine Kd.C_drew ?_))); (case side2 => exact HC0.out); rintro e w22 ⟨rfl, hb⟩; refine ⟨_, rfl, ?_⟩; have n0_ := Aside0.mk (Kd.S_below (by (with_reducible repeat (first | apply Kd.S_alloc | apply Kd.S_drewN | apply Kd.S_drew)); exact HO_6.out) hb); have n1_ := Aside0.mk (below_step (by repeat (first | (with_reducible first | exact HB.out | apply below_alloc | apply pw_below_drewN | apply below_drew1) | exact HB.out)) hb); clear HO_6; clear HB; have HO_6 := n0_; have HB := n1_; clear n0_ n1_; (try clear hb); (try clear hb2); (try clear hk); (try clear hi)) | ((with_reducible refine gate_dst (N := 13) rfl ?_); (try (refine gate_guard (by rfl) ?_; dsimp only)); refine box_event ?hg (N := 13) ?hd (cs := #[.int .i64 0, .int .i64 0, .bool false, .int .i64 0, .int .i64 0]) (t := 35) ?hr ?_; (case hd => rfl); (case hg => rfl); (case hr => first | (go_simp; done) | (go_simp; rfl)); intro gb203 hg w23 hbox hb; have n0_ := Aside0.mk (Kd.S_below (by (with_reducible repeat (first | apply Kd.S_alloc | apply Kd.S_drewN | apply Kd.S_drew)); exact HO_6.out) hb); have n1_ := Aside0.mk (below_step (by repeat (first | (with_reducible first | exact HB.out | apply below_alloc | apply pw_below_drewN | apply below_drew1) | exact HB.out)) hb); have n2_ := Aside0.mk (hbox); have n3_ := Aside0.mk ((by rw [hg]; exact (below_size (by repeat (first | (with_reducible first | exact HB.out | apply below_alloc | apply pw_below_drewN | apply below_drew1) | exact HB.out))) : w.heap.size ≤ gb203)); have n4_ := Aside0.mk ((by rw [hg]; exact (below_size (by repeat (first | (with_reducible first | exact HB.out | apply below_alloc | apply pw_below_drewN | apply below_drew1) | exact HB.out))) : w.heap.size ≤ gb203)); clear HO_6; clear HB; have HO_6 := n0_; have HB := n1_; have BK203 := n2_; have GW203 := n3_; have GE203 := n4_; clear n0_ n1_ n2_ n3_ n4_; clear hb hbox hg; have hcz24_0 : w23.cell? ⟨gb203, 0, none⟩ = some (.int .i64 0) := (blk_cell BK203.out 0).trans rfl; have hcz24_1 : w23.cell? ⟨gb203, 1, none⟩ = some (.int .i64 0) := (blk_cell BK203.out 1).trans rfl; have hcz24_2 : w23.cell? ⟨gb203, 2, none⟩ = some (.bool false) := (blk_cell BK203.out 2).trans rfl; have hcz24_3 : w23.cell? ⟨gb203, 3, none⟩ = some (.int .i64 0) := (blk_cell BK203.out 3).trans rfl; have hcz24_4 : w23.cell? ⟨gb203, 4, none⟩ = some (.int .i64 0) := (blk_cell BK203.out 4).trans rfl; have hfz24_0 := blk_frozen BK203.out 0; have hfz24_1 := blk_frozen BK203.out 1; have hfz24_2 := blk_frozen BK203.out 2; have hfz24_3 := blk_frozen BK203.out 3; have hfz24_4 := blk_frozen BK203.out 4))
            (try simp only [Act.put, List.setIfInBounds_toArray, List.set_cons_zero, List.set_cons_succ])
            go_cut [88] (fun v88 wc => ∃ (kq : Nat) (x88_20 : Bool), v88 = .bool x88_20 ∧ Aside0 (sobriquetlaw02_WellExact.j1 kq l0 t186 t187 x88_20 t197 t198 t199 t200 t201 = some r) ∧ Aside0 (kq ≤ kj7) ∧ Aside0 (Kd.S (Kd.slice 5 (Kd.int .u8)) 22 wc w.heap.size (fun _ => True) v188 t186) ∧ Aside0 (wc.heap[gb203]? = some (.cells #[.int .i64 t197, .int .i64 t198, .bool t199, .int .i64 t200, .int .i64 t201] 35 (0, 0))) ∧ Aside0 (Below w.heap.size w wc))
            case first =>
              have H := HC21.out
              clear HC21
              by_cases c25 : t191 = 0
              · rw [if_pos c25] at H
                have c25b0 : (t191 == 0) = true := beq_iff_eq.mpr c25
                have c25b1 : (t191 != 0) = false := bne_eq_false_iff_eq.mpr c25
                clear c25
                (first | rw [c25b0] | (simp only [i64_w, i32_w]; rw [c25b0]) | skip)
                have H' := Aside0.mk H
                clear H
                go_wp2
                go_meet
                case rel => exact ⟨_, ((t190 != t194)), (by first | rfl | (simp; done) | (simp [*]; done)), H', ⟨by have := HJ7.out; first | omega | exact Nat.le_refl _⟩, ⟨by (with_reducible repeat (first | apply Kd.S_alloc | apply Kd.S_drewN | apply Kd.S_drew)); exact Kd.S_mono (Kd.S_far (p := ⟨gb203, 4, none⟩) (Kd.S_far (p := ⟨gb203, 3, none⟩) (Kd.S_far (p := ⟨gb203, 2, none⟩) (Kd.S_far (p := ⟨gb203, 1, none⟩) (Kd.S_far (p := ⟨gb203, 0, none⟩) (Kd.S_types HO_6.out BK203.out (by decide)) (fun _ hk => hk.2) (.int .i64 t197)) (fun _ hk => hk.2) (.int .i64 t198)) (fun _ hk => hk.2) (.bool t199)) (fun _ hk => hk.2) (.int .i64 t200)) (fun _ hk => hk.2) (.int .i64 t201)) (fun _ hk => trivial)⟩, ⟨by (with_reducible repeat (first | refine blk_drewN ?_ _ | refine blk_drew ?_ | refine blk_alloc ?_ _)); refine blk_put (cs := #[.int .i64 t197, .int .i64 t198, .bool t199, .int .i64 t200, .int .i64 0]) ?_ 4 _ rfl; (with_reducible repeat (first | refine blk_drewN ?_ _ | refine blk_drew ?_ | refine blk_alloc ?_ _)); refine blk_put (cs := #[.int .i64 t197, .int .i64 t198, .bool t199, .int .i64 0, .int .i64 0]) ?_ 3 _ rfl; (with_reducible repeat (first | refine blk_drewN ?_ _ | refine blk_drew ?_ | refine blk_alloc ?_ _)); refine blk_put (cs := #[.int .i64 t197, .int .i64 t198, .bool false, .int .i64 0, .int .i64 0]) ?_ 2 _ rfl; (with_reducible repeat (first | refine blk_drewN ?_ _ | refine blk_drew ?_ | refine blk_alloc ?_ _)); refine blk_put (cs := #[.int .i64 t197, .int .i64 0, .bool false, .int .i64 0, .int .i64 0]) ?_ 1 _ rfl; (with_reducible repeat (first | refine blk_drewN ?_ _ | refine blk_drew ?_ | refine blk_alloc ?_ _)); refine blk_put (cs := #[.int .i64 0, .int .i64 0, .bool false, .int .i64 0, .int .i64 0]) ?_ 0 _ rfl; (with_reducible repeat (first | refine blk_drewN ?_ _ | refine blk_drew ?_ | refine blk_alloc ?_ _)); exact BK203.out⟩, ⟨by repeat (first | (with_reducible first | exact HB.out | apply below_alloc | apply pw_below_drewN | apply below_drew1 | refine below_set ?_ GE203.out) | exact HB.out)⟩⟩
              · rw [if_neg c25] at H
                have c25b0 : (t191 == 0) = false := beq_eq_false_iff_ne.mpr c25
                have c25b1 : (t191 != 0) = true := bne_iff_ne.mpr c25
                (first | rw [c25b0] | (simp only [i64_w, i32_w]; rw [c25b0]) | skip)
                have H' := Aside0.mk H
                clear H
                go_wp2
                go_meet
                case rel => exact ⟨_, (true), (by first | rfl | (simp; done) | (simp [*]; done)), H', ⟨by have := HJ7.out; first | omega | exact Nat.le_refl _⟩, ⟨by (with_reducible repeat (first | apply Kd.S_alloc | apply Kd.S_drewN | apply Kd.S_drew)); exact Kd.S_mono (Kd.S_far (p := ⟨gb203, 4, none⟩) (Kd.S_far (p := ⟨gb203, 3, none⟩) (Kd.S_far (p := ⟨gb203, 2, none⟩) (Kd.S_far (p := ⟨gb203, 1, none⟩) (Kd.S_far (p := ⟨gb203, 0, none⟩) (Kd.S_types HO_6.out BK203.out (by decide)) (fun _ hk => hk.2) (.int .i64 t197)) (fun _ hk => hk.2) (.int .i64 t198)) (fun _ hk => hk.2) (.bool t199)) (fun _ hk => hk.2) (.int .i64 t200)) (fun _ hk => hk.2) (.int .i64 t201)) (fun _ hk => trivial)⟩, ⟨by (with_reducible repeat (first | refine blk_drewN ?_ _ | refine blk_drew ?_ | refine blk_alloc ?_ _)); refine blk_put (cs := #[.int .i64 t197, .int .i64 t198, .bool t199, .int .i64 t200, .int .i64 0]) ?_ 4 _ rfl; (with_reducible repeat (first | refine blk_drewN ?_ _ | refine blk_drew ?_ | refine blk_alloc ?_ _)); refine blk_put (cs := #[.int .i64 t197, .int .i64 t198, .bool t199, .int .i64 0, .int .i64 0]) ?_ 3 _ rfl; (with_reducible repeat (first | refine blk_drewN ?_ _ | refine blk_drew ?_ | refine blk_alloc ?_ _)); refine blk_put (cs := #[.int .i64 t197, .int .i64 t198, .bool false, .int .i64 0, .int .i64 0]) ?_ 2 _ rfl; (with_reducible repeat (first | refine blk_drewN ?_ _ | refine blk_drew ?_ | refine blk_alloc ?_ _)); refine blk_put (cs := #[.int .i64 t197, .int .i64 0, .bool false, .int .i64 0, .int .i64 0]) ?_ 1 _ rfl; (with_reducible repeat (first | refine blk_drewN ?_ _ | refine blk_drew ?_ | refine blk_alloc ?_ _)); refine blk_put (cs := #[.int .i64 0, .int .i64 0, .bool false, .int .i64 0, .int .i64 0]) ?_ 0 _ rfl; (with_reducible repeat (first | refine blk_drewN ?_ _ | refine blk_drew ?_ | refine blk_alloc ?_ _)); exact BK203.out⟩, ⟨by repeat (first | (with_reducible first | exact HB.out | apply below_alloc | apply pw_below_drewN | apply below_drew1 | refine below_set ?_ GE203.out) | exact HB.out)⟩⟩
            case rest =>
              clear HC21
              try clear c1
              try clear c2
              try clear c2b0
              try clear c2b1
              try clear p2
              try clear c3
              try clear c10
              try clear c11
              try clear c12
              try clear c13
              try clear c14
              try clear c15
              try clear c15b0
              try clear c15b1
              try clear c16
              try clear c16b0
              try clear c16b1
              try clear c17
              try clear c18
              try clear c19
              try clear c19b0
              try clear c19b1
              try clear c25
              try clear c25b0
              try clear c25b1
              try clear hcz24_0
              try clear hcz24_1
              try clear hcz24_2
              try clear hcz24_3
              try clear hcz24_4
              try clear hfz24_0
              try clear hfz24_1
              try clear hfz24_2
              try clear hfz24_3
              try clear hfz24_4
              try clear p2
              obtain ⟨kq, x88_20, rfl, HA, HJ20, HO_6, BK203, HB⟩ := hcut
              cases kq with
              | zero => exact absurd HA.out (by simp [sobriquetlaw02_WellExact.j1])
              | succ kj20 =>
                have H := HA.out
                clear HA
                simp only [sobriquetlaw02_WellExact.j1] at H
                by_cases c26 : x88_20 = true
                · subst c26
                  have H1 : (some false) = some r := by rw [if_pos rfl] at H; exact H
                  clear H
                  have H := H1
                  clear H1
                  exact absurd ((Option.some.inj H).trans hrt.out) (by decide)
                · replace c26 := Bool.eq_false_iff.mpr c26
                  subst c26
                  have H1 : (if t199 = true then (if t187 = 0 then (if 0 ≤ t201 then (if t201 ≤ (l0.length : Int) then ((sobriquetref01_Parts.f kj20 (l0.drop (t201 : Int).toNat)).bind fun t206 => ((sobriquetkeep_Rows.f kj20 t186 t206).bind fun t209 => (if t209 = true then ((sobriquetlaw02_wakes.f kj20).bind fun t210 => (some t210)) else (some false)))) else (none)) else (none)) else (some false)) else (if t187 = 7 then (if (t186.length : Int) = 0 then ((sobriquetlaw02_wakes.f kj20).bind fun t204 => (some t204)) else (some false)) else (some false))) = some r := by rw [if_neg (show ¬ (false = true) by decide)] at H; exact H
                  clear H
                  have H := H1
                  clear H1
                  by_cases c27 : t199 = true
                  · subst c27
                    have H1 : (if t187 = 0 then (if 0 ≤ t201 then (if t201 ≤ (l0.length : Int) then ((sobriquetref01_Parts.f kj20 (l0.drop (t201 : Int).toNat)).bind fun t206 => ((sobriquetkeep_Rows.f kj20 t186 t206).bind fun t209 => (if t209 = true then ((sobriquetlaw02_wakes.f kj20).bind fun t210 => (some t210)) else (some false)))) else (none)) else (none)) else (some false)) = some r := by rw [if_pos rfl] at H; exact H
                    clear H
                    have H := H1
                    clear H1
                    by_cases c28 : t187 = 0
                    · rw [if_pos c28] at H
                      have c28b0 : (t187 == 0) = true := beq_iff_eq.mpr c28
                      have c28b1 : (t187 != 0) = false := bne_eq_false_iff_eq.mpr c28
                      clear c28
                      by_cases c29 : 0 ≤ t201
                      · rw [if_pos c29] at H
                        have c29b0 := eq_true c29
                        have c29b1 : decide (0 ≤ t201) = true := decide_eq_true c29
                        clear c29
                        by_cases c30 : t201 ≤ (l0.length : Int)
                        · rw [if_pos c30] at H
                          have c30b0 := eq_true c30
                          have c30b1 : decide (t201 ≤ (l0.length : Int)) = true := decide_eq_true c30
                          clear c30
                          replace H := Option.bind_eq_some_iff.mp H
                          obtain ⟨t206, A310, H⟩ := H
                          replace H : ((sobriquetkeep_Rows.f kj20 t186 t206).bind fun t209 => (if t209 = true then ((sobriquetlaw02_wakes.f kj20).bind fun t210 => (some t210)) else (some false))) = some r := H
                          have A31 := Aside0.mk A310
                          clear A310
                          replace H := Option.bind_eq_some_iff.mp H
                          obtain ⟨t209, A320, H⟩ := H
                          replace H : (if t209 = true then ((sobriquetlaw02_wakes.f kj20).bind fun t210 => (some t210)) else (some false)) = some r := H
                          have A32 := Aside0.mk A320
                          clear A320
                          by_cases c33 : t209 = true
                          · subst c33
                            have H1 : ((sobriquetlaw02_wakes.f kj20).bind fun t210 => (some t210)) = some r := by rw [if_pos rfl] at H; exact H
                            clear H
                            have H := H1
                            clear H1
                            replace H := Option.bind_eq_some_iff.mp H
                            obtain ⟨t210, A340, H⟩ := H
                            replace H : (some t210) = some r := H
                            have A34 := Aside0.mk A340
                            clear A340
                            obtain rfl := Option.some.inj H
                            have hcz35_0 : wc.cell? ⟨gb203, 0, none⟩ = some (.int .i64 t197) := (blk_cell BK203.out 0).trans rfl
                            have hcz35_1 : wc.cell? ⟨gb203, 1, none⟩ = some (.int .i64 t198) := (blk_cell BK203.out 1).trans rfl
                            have hcz35_2 : wc.cell? ⟨gb203, 2, none⟩ = some (.bool true) := (blk_cell BK203.out 2).trans rfl
                            have hcz35_3 : wc.cell? ⟨gb203, 3, none⟩ = some (.int .i64 t200) := (blk_cell BK203.out 3).trans rfl
                            have hcz35_4 : wc.cell? ⟨gb203, 4, none⟩ = some (.int .i64 t201) := (blk_cell BK203.out 4).trans rfl
                            have hfz35_0 := blk_frozen BK203.out 0
                            have hfz35_1 := blk_frozen BK203.out 1
                            have hfz35_2 := blk_frozen BK203.out 2
                            have hfz35_3 := blk_frozen BK203.out 3
                            have hfz35_4 := blk_frozen BK203.out 4
                            obtain ⟨i036, hi036, _, hsz36, _⟩ := info_parts info5
                            obtain ⟨A36, hcut36, hA36, hC36⟩ := print_drop_of (P := Try.prog) (Value.int .u8) 0 22 5 .i64 Try.underlying22 hi036 hsz36 A0 c0 l0 t201 (of_decide_eq_true (by first | (with_reducible assumption) | assumption)) (of_decide_eq_true (by first | (with_reducible assumption) | assumption)) HC0.out
                            have HR205 := Aside0.mk (Kd.C_of_reads (h1 := fun _ => rfl) (hA36 _ (Kd.reads_of_C HR0.out)))
                            have HC205 := Aside0.mk hC36
                            clear hA36 hC36 hi036 hsz36
                            go_wp2_with (first | (go_at_call 19; (try rw [show l0.length - t201.toNat = (l0.drop (t201 : Int).toNat).length from List.length_drop.symm]); (with_reducible refine (sobriquetref01_Parts.calls kj20 (fun k_ => k_ < w.heap.size) _ _ (l0.drop (t201 : Int).toNat) t206 _ ?side1 A31.out).mono ?_); (case side1 => exact Kd.V_mk HC205.out (Kd.F_below (Kd.C_F (Kd.heap_int .u8) HR205.out) (by repeat (first | (with_reducible first | exact HB.out | apply below_alloc | apply pw_below_drewN | apply below_drew1 | refine below_set ?_ GE203.out) | exact HB.out)))); rintro e w37 ⟨v207, rfl, ho0, hb⟩; have n0_ := Aside0.mk (Kd.S_elder' (by (with_reducible repeat (first | apply Kd.S_alloc | apply Kd.S_drewN | apply Kd.S_drew)); exact HO_6.out) (Kd.S_base ho0) hb); have n1_ := Aside0.mk (Kd.S_lower (Kd.S_new' (Kd.S_mono (ok' := fun k_ => True) ho0 (fun _ hk_ => trivial)) (Kd.S_lt (by (with_reducible repeat (first | apply Kd.S_alloc | apply Kd.S_drewN | apply Kd.S_drew)); exact HO_6.out))) (below_size (by repeat (first | (with_reducible first | exact HB.out | apply below_alloc | apply pw_below_drewN | apply below_drew1 | refine below_set ?_ GE203.out) | exact HB.out)))); have n2_ := Aside0.mk (blk_below (g := gb203) (o := .cells #[.int .i64 t197, .int .i64 t198, .bool true, .int .i64 t200, .int .i64 t201] 35 (0, 0)) (by (with_reducible repeat (first | refine blk_drewN ?_ _ | refine blk_drew ?_ | refine blk_alloc ?_ _)); exact BK203.out) hb); have n3_ := Aside0.mk (below_step (by repeat (first | (with_reducible first | exact HB.out | apply below_alloc | apply pw_below_drewN | apply below_drew1 | refine below_set ?_ GE203.out) | exact HB.out)) hb); clear HO_6; clear BK203; clear HB; have HO_6 := n0_; have HO208 := n1_; have BK203 := n2_; have HB := n3_; clear n0_ n1_ n2_ n3_; (try clear hb); (try clear hb2); (try clear hk); (try clear hi); (try clear ho0); obtain ⟨Ao38, co38, eo38⟩ := Kd.S_slice HO_6.out; subst eo38; obtain ⟨Ao39, co39, eo39⟩ := Kd.S_slice HO208.out; subst eo39) | (go_at_call 18; (with_reducible refine (sobriquetkeep_Rows.calls kj20 _ _ t186 _ _ t206 true _ ?side1 ?side2 ?side3 ?side4 A32.out).mono ?_); (case side1 => repeat (first | exact (Kd.S_reads' HO_6.out).2.2 | (with_reducible refine Kd.C_alloc ?_ _) | (with_reducible refine Kd.C_drewN ?_ _) | (with_reducible refine Kd.C_drew ?_))); (case side2 => exact (Kd.S_reads' HO_6.out).2.1); (case side3 => repeat (first | exact (Kd.S_reads' HO208.out).2.2 | (with_reducible refine Kd.C_alloc ?_ _) | (with_reducible refine Kd.C_drewN ?_ _) | (with_reducible refine Kd.C_drew ?_))); (case side4 => exact (Kd.S_reads' HO208.out).2.1); rintro e w' ⟨rfl, ⟨nd, rfl⟩⟩) | (go_at_call 16; (with_reducible refine (sobriquetlaw02_wakes.calls kj20  t210 _ A34.out (by first | exact hrt.out | rfl)).mono ?_); rintro e w40 ⟨rfl, hb⟩; have n0_ := Aside0.mk (Kd.S_below (by (with_reducible repeat (first | apply Kd.S_alloc | apply Kd.S_drewN | apply Kd.S_drew)); exact HO_6.out) hb); have n1_ := Aside0.mk (Kd.S_below (by (with_reducible repeat (first | apply Kd.S_alloc | apply Kd.S_drewN | apply Kd.S_drew)); exact HO208.out) hb); have n2_ := Aside0.mk (blk_below (g := gb203) (o := .cells #[.int .i64 t197, .int .i64 t198, .bool true, .int .i64 t200, .int .i64 t201] 35 (0, 0)) (by (with_reducible repeat (first | refine blk_drewN ?_ _ | refine blk_drew ?_ | refine blk_alloc ?_ _)); exact BK203.out) hb); have n3_ := Aside0.mk (below_step (by repeat (first | (with_reducible first | exact HB.out | apply below_alloc | apply pw_below_drewN | apply below_drew1 | refine below_set ?_ GE203.out) | exact HB.out)) hb); clear HO_6; clear HO208; clear BK203; clear HB; have HO_6 := n0_; have HO208 := n1_; have BK203 := n2_; have HB := n3_; clear n0_ n1_ n2_ n3_; (try clear hb); (try clear hb2); (try clear hk); (try clear hi)))
                            go_ret
                            exact ⟨by first | rfl | (simp [errW_none, errW_some] <;> rfl) | (simp [*, errW_none, errW_some] <;> rfl), by repeat (first | (with_reducible first | exact HB.out | apply below_alloc | apply pw_below_drewN | apply below_drew1 | refine below_set ?_ GE203.out) | exact HB.out)⟩
                          · replace c33 := Bool.eq_false_iff.mpr c33
                            subst c33
                            have H1 : (some false) = some r := by rw [if_neg (show ¬ (false = true) by decide)] at H; exact H
                            clear H
                            have H := H1
                            clear H1
                            exact absurd ((Option.some.inj H).trans hrt.out) (by decide)
                        · rw [if_neg c30] at H
                          exact absurd H (by simp)
                      · rw [if_neg c29] at H
                        exact absurd H (by simp)
                    · rw [if_neg c28] at H
                      have c28b0 : (t187 == 0) = false := beq_eq_false_iff_ne.mpr c28
                      have c28b1 : (t187 != 0) = true := bne_iff_ne.mpr c28
                      exact absurd ((Option.some.inj H).trans hrt.out) (by decide)
                  · replace c27 := Bool.eq_false_iff.mpr c27
                    subst c27
                    have H1 : (if t187 = 7 then (if (t186.length : Int) = 0 then ((sobriquetlaw02_wakes.f kj20).bind fun t204 => (some t204)) else (some false)) else (some false)) = some r := by rw [if_neg (show ¬ (false = true) by decide)] at H; exact H
                    clear H
                    have H := H1
                    clear H1
                    by_cases c41 : t187 = 7
                    · rw [if_pos c41] at H
                      have c41b0 : (t187 == 7) = true := beq_iff_eq.mpr c41
                      have c41b1 : (t187 != 7) = false := bne_eq_false_iff_eq.mpr c41
                      clear c41
                      by_cases c42 : (t186.length : Int) = 0
                      · rw [if_pos c42] at H
                        have c42b0 : ((t186.length : Int) == 0) = true := beq_iff_eq.mpr c42
                        have c42b1 : ((t186.length : Int) != 0) = false := bne_eq_false_iff_eq.mpr c42
                        clear c42
                        replace H := Option.bind_eq_some_iff.mp H
                        obtain ⟨t204, A430, H⟩ := H
                        replace H : (some t204) = some r := H
                        have A43 := Aside0.mk A430
                        clear A430
                        obtain rfl := Option.some.inj H
                        have hcz44_0 : wc.cell? ⟨gb203, 0, none⟩ = some (.int .i64 t197) := (blk_cell BK203.out 0).trans rfl
                        have hcz44_1 : wc.cell? ⟨gb203, 1, none⟩ = some (.int .i64 t198) := (blk_cell BK203.out 1).trans rfl
                        have hcz44_2 : wc.cell? ⟨gb203, 2, none⟩ = some (.bool false) := (blk_cell BK203.out 2).trans rfl
                        have hcz44_3 : wc.cell? ⟨gb203, 3, none⟩ = some (.int .i64 t200) := (blk_cell BK203.out 3).trans rfl
                        have hcz44_4 : wc.cell? ⟨gb203, 4, none⟩ = some (.int .i64 t201) := (blk_cell BK203.out 4).trans rfl
                        have hfz44_0 := blk_frozen BK203.out 0
                        have hfz44_1 := blk_frozen BK203.out 1
                        have hfz44_2 := blk_frozen BK203.out 2
                        have hfz44_3 := blk_frozen BK203.out 3
                        have hfz44_4 := blk_frozen BK203.out 4
                        obtain ⟨Ao45, co45, eo45⟩ := Kd.S_slice HO_6.out
                        subst eo45
                        go_wp2_with (first | (go_at_call 16; (with_reducible refine (sobriquetlaw02_wakes.calls kj20  t204 _ A43.out (by first | exact hrt.out | rfl)).mono ?_); rintro e w46 ⟨rfl, hb⟩; have n0_ := Aside0.mk (Kd.S_below (by (with_reducible repeat (first | apply Kd.S_alloc | apply Kd.S_drewN | apply Kd.S_drew)); exact HO_6.out) hb); have n1_ := Aside0.mk (blk_below (g := gb203) (o := .cells #[.int .i64 t197, .int .i64 t198, .bool false, .int .i64 t200, .int .i64 t201] 35 (0, 0)) (by (with_reducible repeat (first | refine blk_drewN ?_ _ | refine blk_drew ?_ | refine blk_alloc ?_ _)); exact BK203.out) hb); have n2_ := Aside0.mk (below_step (by repeat (first | (with_reducible first | exact HB.out | apply below_alloc | apply pw_below_drewN | apply below_drew1 | refine below_set ?_ GE203.out) | exact HB.out)) hb); clear HO_6; clear BK203; clear HB; have HO_6 := n0_; have BK203 := n1_; have HB := n2_; clear n0_ n1_ n2_; (try clear hb); (try clear hb2); (try clear hk); (try clear hi)))
                        go_ret
                        exact ⟨by first | rfl | (simp [errW_none, errW_some] <;> rfl) | (simp [*, errW_none, errW_some] <;> rfl), by repeat (first | (with_reducible first | exact HB.out | apply below_alloc | apply pw_below_drewN | apply below_drew1 | refine below_set ?_ GE203.out) | exact HB.out)⟩
                      · rw [if_neg c42] at H
                        have c42b0 : ((t186.length : Int) == 0) = false := beq_eq_false_iff_ne.mpr c42
                        have c42b1 : ((t186.length : Int) != 0) = true := bne_iff_ne.mpr c42
                        have c42b2 : ¬ (t186 = []) := fun h_ => c42 (by rw [h_]; rfl)
                        exact absurd ((Option.some.inj H).trans hrt.out) (by decide)
                    · rw [if_neg c41] at H
                      have c41b0 : (t187 == 7) = false := beq_eq_false_iff_ne.mpr c41
                      have c41b1 : (t187 != 7) = true := bne_iff_ne.mpr c41
                      exact absurd ((Option.some.inj H).trans hrt.out) (by decide)
          · rw [if_neg c19] at H
            have c19b0 : (t193 == 0) = false := beq_eq_false_iff_ne.mpr c19
            have c19b1 : (t193 != 0) = true := bne_iff_ne.mpr c19
            by_cases c47 : t187 = t193
            · rw [if_pos c47] at H
              have c47b0 : (t187 == t193) = true := beq_iff_eq.mpr c47
              have c47b1 : (t187 != t193) = false := bne_eq_false_iff_eq.mpr c47
              clear c47
              by_cases c48 : t191 = t193
              · rw [if_pos c48] at H
                have c48b0 : (t191 == t193) = true := beq_iff_eq.mpr c48
                have c48b1 : (t191 != t193) = false := bne_eq_false_iff_eq.mpr c48
                clear c48
                by_cases c49 : t190 = 0
                · rw [if_pos c49] at H
                  have c49b0 : (t190 == 0) = true := beq_iff_eq.mpr c49
                  have c49b1 : (t190 != 0) = false := bne_eq_false_iff_eq.mpr c49
                  clear c49
                  by_cases c50 : (t186.length : Int) = 0
                  · rw [if_pos c50] at H
                    have c50b0 : ((t186.length : Int) == 0) = true := beq_iff_eq.mpr c50
                    have c50b1 : ((t186.length : Int) != 0) = false := bne_eq_false_iff_eq.mpr c50
                    clear c50
                    replace H := Option.bind_eq_some_iff.mp H
                    obtain ⟨t196, A510, H⟩ := H
                    replace H : (some t196) = some r := H
                    have A51 := Aside0.mk A510
                    clear A510
                    obtain rfl := Option.some.inj H
                    obtain ⟨Ao52, co52, eo52⟩ := Kd.S_slice HO_6.out
                    subst eo52
                    go_wp2_with (first | (go_at_call 16; (with_reducible refine (sobriquetlaw02_wakes.calls kj7  t196 _ A51.out (by first | exact hrt.out | rfl)).mono ?_); rintro e w53 ⟨rfl, hb⟩; have n0_ := Aside0.mk (Kd.S_below (by (with_reducible repeat (first | apply Kd.S_alloc | apply Kd.S_drewN | apply Kd.S_drew)); exact HO_6.out) hb); have n1_ := Aside0.mk (below_step (by repeat (first | (with_reducible first | exact HB.out | apply below_alloc | apply pw_below_drewN | apply below_drew1) | exact HB.out)) hb); clear HO_6; clear HB; have HO_6 := n0_; have HB := n1_; clear n0_ n1_; (try clear hb); (try clear hb2); (try clear hk); (try clear hi)))
                    go_ret
                    exact ⟨by first | rfl | (simp [errW_none, errW_some] <;> rfl) | (simp [*, errW_none, errW_some] <;> rfl), by repeat (first | (with_reducible first | exact HB.out | apply below_alloc | apply pw_below_drewN | apply below_drew1) | exact HB.out)⟩
                  · rw [if_neg c50] at H
                    have c50b0 : ((t186.length : Int) == 0) = false := beq_eq_false_iff_ne.mpr c50
                    have c50b1 : ((t186.length : Int) != 0) = true := bne_iff_ne.mpr c50
                    have c50b2 : ¬ (t186 = []) := fun h_ => c50 (by rw [h_]; rfl)
                    exact absurd ((Option.some.inj H).trans hrt.out) (by decide)
                · rw [if_neg c49] at H
                  have c49b0 : (t190 == 0) = false := beq_eq_false_iff_ne.mpr c49
                  have c49b1 : (t190 != 0) = true := bne_iff_ne.mpr c49
                  exact absurd ((Option.some.inj H).trans hrt.out) (by decide)
              · rw [if_neg c48] at H
                have c48b0 : (t191 == t193) = false := beq_eq_false_iff_ne.mpr c48
                have c48b1 : (t191 != t193) = true := bne_iff_ne.mpr c48
                exact absurd ((Option.some.inj H).trans hrt.out) (by decide)
            · rw [if_neg c47] at H
              have c47b0 : (t187 == t193) = false := beq_eq_false_iff_ne.mpr c47
              have c47b1 : (t187 != t193) = true := bne_iff_ne.mpr c47
              exact absurd ((Option.some.inj H).trans hrt.out) (by decide)

/-- THE ONE PURE STATEMENT of sobriquetlaw02_WellExact: yours. -/
def sobriquetlaw02_WellExact.Pure : Prop := ∀ (l0 : List Int), l0.length ≤ maxLen → l0.length * 1 ≤ 140737488351232 → (∀ x ∈ l0, (Lit.int .u8 x).wf = true) → ∃ k, sobriquetlaw02_WellExact.f k l0 = some true
theorem sobriquetlaw02_WellExact.walk (P : sobriquetlaw02_WellExact.Pure) (a0 : Option Addr) (len0 cap0 : Nat) (z0 : List Int) (w : World) (w0 : (a0 = none ∧ len0 = 0 ∧ cap0 = 0 ∧ z0 = []) ∨ ∃ x, a0 = some x ∧ len0 ≤ cap0 ∧ cap0 ≤ maxLen ∧ z0.length = cap0 ∧ (∀ i, i < z0.length → w.cell? (x.add i) = some (.int .u8 (z0.getD i 0))) ∧ ∀ n ∈ z0, (Lit.int .u8 n).wf = true) (y0 : len0 * 1 ≤ 140737488351232) :
    Calls Try.prog 3 #[.slice a0 len0 cap0] w fun e w' => e = .returned (.bool true) ∧ Below w.heap.size w w' := by
  obtain ⟨l0, rfl, hr0, hm0, hw0, hc0⟩ := ReadsInt.ofRowC w0
  obtain ⟨k, h⟩ := P l0 hm0 y0 hw0
  refine (sobriquetlaw02_WellExact.calls k _ _ l0 true w (Kd.C_of_reads (d := (0 : Int)) (h1 := fun _ => rfl) hr0) hc0 h rfl).mono ?_
  rintro e w' ⟨rfl, hd⟩
  exact ⟨rfl, hd⟩

end Go.Proofs.Ytogbpdmncnldhaa.MWellExact
