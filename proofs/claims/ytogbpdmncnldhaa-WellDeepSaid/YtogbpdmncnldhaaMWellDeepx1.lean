-- Written by a program of this session over the translation; checked by Lean alone.
import Derived.Test.YtogbpdmncnldhaaMWellDeepx0
namespace Go.Proofs.Ytogbpdmncnldhaa.MWellDeep
open Go.RowKit Go.Proofs.YtogbpdmncnldhaaW.PrintWords Go.Proofs.YtogbpdmncnldhaaW.PrintLast Go.Proofs.YtogbpdmncnldhaaW.PrintMore
attribute [local go_sem] max2_int min2_int max_two min_two max_three min_three max_four min_four   -- for this text's walks alone
set_option linter.unusedVariables false
set_option linter.unusedSimpArgs false
set_option linter.unnecessarySimpa false

/-! ### well_Check: function 11 -/
def well_Check.f : Nat → List Int → Option (Int × Int) := Go.Proofs.Ytogbpdmncnldhaa.Base.well_Check.f
theorem well_Check.mono : ∀ a0 k, LeO (well_Check.f k a0) (well_Check.f (k + 1) a0) := Go.Proofs.Ytogbpdmncnldhaa.Base.well_Check.mono
theorem well_Check.calls (k : Nat) (A0 : Option Addr) (c0 : Nat) (l0 : List Int) (r1 r2 : Int) (w : World) (hr0 : Kd.C (Kd.int .u8) w A0 l0.length l0) (hc0 : l0.length ≤ c0) (h : well_Check.f k l0 = some (r1, r2)) :
    Calls Try.prog 11 #[.slice A0 l0.length c0] w fun e w' => e = .returned (.tuple #[.int .i64 r1, .int .i64 r2]) ∧ Below w.heap.size w w' :=
  Go.Proofs.Ytogbpdmncnldhaa.Base.well_Check.calls k A0 c0 l0 r1 r2 w hr0 hc0 h


/-! ### well_Depth: function 13 -/
def well_Depth.f : Nat → List Int → Option (Int × Int) := Go.Proofs.Ytogbpdmncnldhaa.Base.well_Depth.f
theorem well_Depth.mono : ∀ a0 k, LeO (well_Depth.f k a0) (well_Depth.f (k + 1) a0) := Go.Proofs.Ytogbpdmncnldhaa.Base.well_Depth.mono
theorem well_Depth.calls (k : Nat) (A0 : Option Addr) (c0 : Nat) (l0 : List Int) (r1 r2 : Int) (w : World) (hr0 : Kd.C (Kd.int .u8) w A0 l0.length l0) (hc0 : l0.length ≤ c0) (h : well_Depth.f k l0 = some (r1, r2)) :
    Calls Try.prog 13 #[.slice A0 l0.length c0] w fun e w' => e = .returned (.tuple #[.int .i64 r1, .int .i64 r2]) ∧ Below w.heap.size w w' :=
  Go.Proofs.Ytogbpdmncnldhaa.Base.well_Depth.calls k A0 c0 l0 r1 r2 w hr0 hc0 h


/-! ### well_Parts: function 12 -/
def well_Parts.f : Nat → List Int → Option (List (List Int) × Int) := Go.Proofs.Ytogbpdmncnldhaa.Base.well_Parts.f
theorem well_Parts.mono : ∀ a0 k, LeO (well_Parts.f k a0) (well_Parts.f (k + 1) a0) := Go.Proofs.Ytogbpdmncnldhaa.Base.well_Parts.mono
theorem well_Parts.calls (k : Nat) (A0 : Option Addr) (c0 : Nat) (l0 : List Int) (r1 : List (List Int)) (r2 : Int) (w : World) (hr0 : Kd.C (Kd.int .u8) w A0 l0.length l0) (hc0 : l0.length ≤ c0) (h : well_Parts.f k l0 = some (r1, r2)) :
    Calls Try.prog 12 #[.slice A0 l0.length c0] w fun e w' => ∃ v0_ : Value, e = .returned (.tuple #[v0_, .int .i64 r2]) ∧ Kd.S (Kd.slice 5 (Kd.int .u8)) 22 w' w.heap.size (fun _ => True) v0_ r1 ∧ Below w.heap.size w w' :=
  Go.Proofs.Ytogbpdmncnldhaa.Base.well_Parts.calls k A0 c0 l0 r1 r2 w hr0 hc0 h


/-! ### sobriquetlaw02_wakes: function 16 -/
def sobriquetlaw02_wakes.f (k : Nat)  : Option (Bool) := (well_Check.f k (([48, 3, 2, 1, 5] : List Int))).bind fun bt104 => ((well_Depth.f k (([48, 3, 2, 1, 5] : List Int))).bind fun bt109 => ((well_Parts.f k (([48, 3, 2, 1, 5] : List Int))).bind fun bt114 => ((well_Check.f k (([48, 3, 2, 2, 5] : List Int))).bind fun bt121 => (if bt104.2 = 0 then (if bt109.2 = 0 then (if bt114.2 = 0 then (if bt109.1 = 2 then (if (bt114.1.length : Int) = 1 then (if bt121.2 = 2 then (some (bt121.1 == 2)) else (some false)) else (some false)) else (some false)) else (some false)) else (some false)) else (some false)))))
theorem sobriquetlaw02_wakes.mono : ∀ k, LeO (sobriquetlaw02_wakes.f k ) (sobriquetlaw02_wakes.f (k + 1) ) := by
  intro  k
  unfold sobriquetlaw02_wakes.f
  repeat' first
      | (with_reducible exact well_Check.mono _ _)
      | (with_reducible exact well_Depth.mono _ _)
      | (with_reducible exact well_Parts.mono _ _)
      | (with_reducible exact LeO.refl _)
      | (with_reducible exact LeO.none _)
      | (with_reducible refine LeO.ite ?_ ?_)
      | (with_reducible refine LeO.bind ?_ (fun _ => ?_))
      | exact well_Check.mono _ _
      | exact well_Depth.mono _ _
      | exact well_Parts.mono _ _
      | exact LeO.none _
      | refine LeO.ite ?_ ?_
      | refine LeO.bind ?_ (fun _ => ?_)
set_option maxHeartbeats 8000000 in
set_option maxRecDepth 100000 in
theorem sobriquetlaw02_wakes.calls (k : Nat)  (r : Bool) (w : World) (h : sobriquetlaw02_wakes.f k  = some r) (hrt0 : r = true) :
    Calls Try.prog 16 #[] w fun e w' => e = .returned (.bool r) ∧ Below w.heap.size w w' := by
  have HB := Aside0.mk (Below.refl w.heap.size w)
  have hrt := Aside0.mk hrt0
  clear hrt0
  have H : ((well_Check.f k (([48, 3, 2, 1, 5] : List Int))).bind fun bt104 => ((well_Depth.f k (([48, 3, 2, 1, 5] : List Int))).bind fun bt109 => ((well_Parts.f k (([48, 3, 2, 1, 5] : List Int))).bind fun bt114 => ((well_Check.f k (([48, 3, 2, 2, 5] : List Int))).bind fun bt121 => (if bt104.2 = 0 then (if bt109.2 = 0 then (if bt114.2 = 0 then (if bt109.1 = 2 then (if (bt114.1.length : Int) = 1 then (if bt121.2 = 2 then (some (bt121.1 == 2)) else (some false)) else (some false)) else (some false)) else (some false)) else (some false)) else (some false)))))) = some r := h
  clear h
  obtain ⟨y101, hy101⟩ : ∃ y_ : List Int, y_ = (([48, 3, 2, 1, 5] : List Int)) := ⟨_, rfl⟩
  replace H : ((well_Check.f k y101).bind fun bt104 => ((well_Depth.f k (([48, 3, 2, 1, 5] : List Int))).bind fun bt109 => ((well_Parts.f k (([48, 3, 2, 1, 5] : List Int))).bind fun bt114 => ((well_Check.f k (([48, 3, 2, 2, 5] : List Int))).bind fun bt121 => (if bt104.2 = 0 then (if bt109.2 = 0 then (if bt114.2 = 0 then (if bt109.1 = 2 then (if (bt114.1.length : Int) = 1 then (if bt121.2 = 2 then (some (bt121.1 == 2)) else (some false)) else (some false)) else (some false)) else (some false)) else (some false)) else (some false)))))) = some r := by first | (rw [hy101]; with_reducible exact H) | (have H2_ := (Option.bind_some _ _).symm.trans H; rw [hy101]; with_reducible exact H2_) | (have H2_ := (Option.bind_some _ _).symm.trans H; with_reducible exact H2_) | with_reducible exact H | (rw [hy101]; exact H) | exact H
  have Ny101 := Aside0.mk hy101
  clear hy101
  replace H := Option.bind_eq_some_iff.mp H
  obtain ⟨⟨t104, t105⟩, A10, H⟩ := H
  replace H : ((well_Depth.f k (([48, 3, 2, 1, 5] : List Int))).bind fun bt109 => ((well_Parts.f k (([48, 3, 2, 1, 5] : List Int))).bind fun bt114 => ((well_Check.f k (([48, 3, 2, 2, 5] : List Int))).bind fun bt121 => (if t105 = 0 then (if bt109.2 = 0 then (if bt114.2 = 0 then (if bt109.1 = 2 then (if (bt114.1.length : Int) = 1 then (if bt121.2 = 2 then (some (bt121.1 == 2)) else (some false)) else (some false)) else (some false)) else (some false)) else (some false)) else (some false))))) = some r := H
  have A1 := Aside0.mk A10
  clear A10
  obtain ⟨y106, hy106⟩ : ∃ y_ : List Int, y_ = (([48, 3, 2, 1, 5] : List Int)) := ⟨_, rfl⟩
  replace H : ((well_Depth.f k y106).bind fun bt109 => ((well_Parts.f k (([48, 3, 2, 1, 5] : List Int))).bind fun bt114 => ((well_Check.f k (([48, 3, 2, 2, 5] : List Int))).bind fun bt121 => (if t105 = 0 then (if bt109.2 = 0 then (if bt114.2 = 0 then (if bt109.1 = 2 then (if (bt114.1.length : Int) = 1 then (if bt121.2 = 2 then (some (bt121.1 == 2)) else (some false)) else (some false)) else (some false)) else (some false)) else (some false)) else (some false))))) = some r := by first | (rw [hy106]; with_reducible exact H) | (have H2_ := (Option.bind_some _ _).symm.trans H; rw [hy106]; with_reducible exact H2_) | (have H2_ := (Option.bind_some _ _).symm.trans H; with_reducible exact H2_) | with_reducible exact H | (rw [hy106]; exact H) | exact H
  have Ny106 := Aside0.mk hy106
  clear hy106
  replace H := Option.bind_eq_some_iff.mp H
  obtain ⟨⟨t109, t110⟩, A20, H⟩ := H
  replace H : ((well_Parts.f k (([48, 3, 2, 1, 5] : List Int))).bind fun bt114 => ((well_Check.f k (([48, 3, 2, 2, 5] : List Int))).bind fun bt121 => (if t105 = 0 then (if t110 = 0 then (if bt114.2 = 0 then (if t109 = 2 then (if (bt114.1.length : Int) = 1 then (if bt121.2 = 2 then (some (bt121.1 == 2)) else (some false)) else (some false)) else (some false)) else (some false)) else (some false)) else (some false)))) = some r := H
  have A2 := Aside0.mk A20
  clear A20
  obtain ⟨y111, hy111⟩ : ∃ y_ : List Int, y_ = (([48, 3, 2, 1, 5] : List Int)) := ⟨_, rfl⟩
  replace H : ((well_Parts.f k y111).bind fun bt114 => ((well_Check.f k (([48, 3, 2, 2, 5] : List Int))).bind fun bt121 => (if t105 = 0 then (if t110 = 0 then (if bt114.2 = 0 then (if t109 = 2 then (if (bt114.1.length : Int) = 1 then (if bt121.2 = 2 then (some (bt121.1 == 2)) else (some false)) else (some false)) else (some false)) else (some false)) else (some false)) else (some false)))) = some r := by first | (rw [hy111]; with_reducible exact H) | (have H2_ := (Option.bind_some _ _).symm.trans H; rw [hy111]; with_reducible exact H2_) | (have H2_ := (Option.bind_some _ _).symm.trans H; with_reducible exact H2_) | with_reducible exact H | (rw [hy111]; exact H) | exact H
  have Ny111 := Aside0.mk hy111
  clear hy111
  replace H := Option.bind_eq_some_iff.mp H
  obtain ⟨⟨t114, t115⟩, A30, H⟩ := H
  replace H : ((well_Check.f k (([48, 3, 2, 2, 5] : List Int))).bind fun bt121 => (if t105 = 0 then (if t110 = 0 then (if t115 = 0 then (if t109 = 2 then (if (t114.length : Int) = 1 then (if bt121.2 = 2 then (some (bt121.1 == 2)) else (some false)) else (some false)) else (some false)) else (some false)) else (some false)) else (some false))) = some r := H
  have A3 := Aside0.mk A30
  clear A30
  obtain ⟨y118, hy118⟩ : ∃ y_ : List Int, y_ = (([48, 3, 2, 2, 5] : List Int)) := ⟨_, rfl⟩
  replace H : ((well_Check.f k y118).bind fun bt121 => (if t105 = 0 then (if t110 = 0 then (if t115 = 0 then (if t109 = 2 then (if (t114.length : Int) = 1 then (if bt121.2 = 2 then (some (bt121.1 == 2)) else (some false)) else (some false)) else (some false)) else (some false)) else (some false)) else (some false))) = some r := by first | (rw [hy118]; with_reducible exact H) | (have H2_ := (Option.bind_some _ _).symm.trans H; rw [hy118]; with_reducible exact H2_) | (have H2_ := (Option.bind_some _ _).symm.trans H; with_reducible exact H2_) | with_reducible exact H | (rw [hy118]; exact H) | exact H
  have Ny118 := Aside0.mk hy118
  clear hy118
  replace H := Option.bind_eq_some_iff.mp H
  obtain ⟨⟨t121, t122⟩, A40, H⟩ := H
  replace H : (if t105 = 0 then (if t110 = 0 then (if t115 = 0 then (if t109 = 2 then (if (t114.length : Int) = 1 then (if t122 = 2 then (some (t121 == 2)) else (some false)) else (some false)) else (some false)) else (some false)) else (some false)) else (some false)) = some r := H
  have A4 := Aside0.mk A40
  clear A40
  by_cases c5 : t105 = 0
  · rw [if_pos c5] at H
    have c5b0 : (t105 == 0) = true := beq_iff_eq.mpr c5
    have c5b1 : (t105 != 0) = false := bne_eq_false_iff_eq.mpr c5
    clear c5
    by_cases c6 : t110 = 0
    · rw [if_pos c6] at H
      have c6b0 : (t110 == 0) = true := beq_iff_eq.mpr c6
      have c6b1 : (t110 != 0) = false := bne_eq_false_iff_eq.mpr c6
      clear c6
      by_cases c7 : t115 = 0
      · rw [if_pos c7] at H
        have c7b0 : (t115 == 0) = true := beq_iff_eq.mpr c7
        have c7b1 : (t115 != 0) = false := bne_eq_false_iff_eq.mpr c7
        clear c7
        by_cases c8 : t109 = 2
        · rw [if_pos c8] at H
          have c8b0 : (t109 == 2) = true := beq_iff_eq.mpr c8
          have c8b1 : (t109 != 2) = false := bne_eq_false_iff_eq.mpr c8
          clear c8
          by_cases c9 : (t114.length : Int) = 1
          · rw [if_pos c9] at H
            have c9b0 : ((t114.length : Int) == 1) = true := beq_iff_eq.mpr c9
            have c9b1 : ((t114.length : Int) != 1) = false := bne_eq_false_iff_eq.mpr c9
            clear c9
            by_cases c10 : t122 = 2
            · rw [if_pos c10] at H
              have c10b0 : (t122 == 2) = true := beq_iff_eq.mpr c10
              have c10b1 : (t122 != 2) = false := bne_eq_false_iff_eq.mpr c10
              clear c10
              obtain rfl := Option.some.inj H
              go_enter Try.func16, Try.ntmps16
              go_wp2_with (first | ((with_reducible refine gate_dst (N := 10) rfl ?_); (try (refine gate_guard (by rfl) ?_; dsimp only)); refine Kd.R_lit (Kd.int .u8) _ 5 ?hg (N := 10) ?hd (xs := ([48, 3, 2, 1, 5] : List Int)) (inner := [.int .u8 48, .int .u8 3, .int .u8 2, .int .u8 1, .int .u8 5]) (ok := fun _ => True) (okp := fun _ => True) ?hr ?hp (fun _ hk => hk) trivial (Below.refl _ _) (Nat.le_refl _) (by simp) ?_; (case hd => rfl); (case hg => rfl); (case hr => first | (go_simp; done) | (go_simp; rfl)); (case hp => exact (Reps.one (show Kd.M (Kd.int .u8) _ _ _ 48 [.int .u8 48] from rfl) (Reps.one (show Kd.M (Kd.int .u8) _ _ _ 3 [.int .u8 3] from rfl) (Reps.one (show Kd.M (Kd.int .u8) _ _ _ 2 [.int .u8 2] from rfl) (Reps.one (show Kd.M (Kd.int .u8) _ _ _ 1 [.int .u8 1] from rfl) (Reps.one (show Kd.M (Kd.int .u8) _ _ _ 5 [.int .u8 5] from rfl) (Reps.none _ _))))))); intro v102 w11 ho12 hb hg_ hnew_; clear hg_ hnew_; (first | rw [← Ny101.out] at ho12 | (simp only [Int.reduceToNat] at ho12; rw [← Ny101.out] at ho12)); have n0_ := Aside0.mk (Kd.R_lower ho12 (below_size (by repeat (first | (with_reducible first | exact HB.out | apply below_alloc | apply pw_below_drewN | apply below_drew1) | exact HB.out)))); have n1_ := Aside0.mk (below_step (by repeat (first | (with_reducible first | exact HB.out | apply below_alloc | apply pw_below_drewN | apply below_drew1) | exact HB.out)) hb); clear HB; have HO103 := n0_; have HB := n1_; clear n0_ n1_; clear hb ho12; obtain ⟨Ao13, co13, eo13⟩ := Kd.R_slice HO103.out; subst eo13) | ((with_reducible refine gate_callee (f := 11) rfl ?_); refine goesL_ (some 11) rfl rfl Try.func11 (by kernel_rfl) rfl #[.slice Ao13 y101.length co13] rfl (by (try simp only [List.map_toArray, List.map_cons, List.map_nil]); first | done | rfl | (simp only [List.length_drop, List.length_take]; rfl)) ?_; (with_reducible refine (well_Check.calls k _ _ y101 t104 t105 _ ?side1 ?side2 A1.out).mono ?_); (case side1 => repeat (first | exact (Kd.R_reads' HO103.out).2.2 | (with_reducible refine Kd.C_alloc ?_ _) | (with_reducible refine Kd.C_drewN ?_ _) | (with_reducible refine Kd.C_drew ?_))); (case side2 => exact (Kd.R_reads' HO103.out).2.1); rintro e w14 ⟨rfl, hb⟩; refine ⟨_, rfl, ?_⟩; have n0_ := Aside0.mk (Kd.R_below (by (with_reducible repeat (first | apply Kd.R_alloc | apply Kd.R_drewN | apply Kd.R_drew)); exact HO103.out) hb); have n1_ := Aside0.mk (below_step (by repeat (first | (with_reducible first | exact HB.out | apply below_alloc | apply pw_below_drewN | apply below_drew1) | exact HB.out)) hb); clear HO103; clear HB; have HO103 := n0_; have HB := n1_; clear n0_ n1_; (try clear hb); (try clear hb2); (try clear hk); (try clear hi)) | ((with_reducible refine gate_dst (N := 15) rfl ?_); (try (refine gate_guard (by rfl) ?_; dsimp only)); refine Kd.R_lit (Kd.int .u8) _ 5 ?hg (N := 15) ?hd (xs := ([48, 3, 2, 1, 5] : List Int)) (inner := [.int .u8 48, .int .u8 3, .int .u8 2, .int .u8 1, .int .u8 5]) (ok := fun _ => True) (okp := fun _ => True) ?hr ?hp (fun _ hk => hk) trivial (Below.refl _ _) (Nat.le_refl _) (by simp) ?_; (case hd => rfl); (case hg => rfl); (case hr => first | (go_simp; done) | (go_simp; rfl)); (case hp => exact (Reps.one (show Kd.M (Kd.int .u8) _ _ _ 48 [.int .u8 48] from rfl) (Reps.one (show Kd.M (Kd.int .u8) _ _ _ 3 [.int .u8 3] from rfl) (Reps.one (show Kd.M (Kd.int .u8) _ _ _ 2 [.int .u8 2] from rfl) (Reps.one (show Kd.M (Kd.int .u8) _ _ _ 1 [.int .u8 1] from rfl) (Reps.one (show Kd.M (Kd.int .u8) _ _ _ 5 [.int .u8 5] from rfl) (Reps.none _ _))))))); intro v107 w15 ho16 hb hg_ hnew_; clear hg_ hnew_; (first | rw [← Ny106.out] at ho16 | (simp only [Int.reduceToNat] at ho16; rw [← Ny106.out] at ho16)); have n0_ := Aside0.mk (Kd.R_elder' (by (with_reducible repeat (first | apply Kd.R_alloc | apply Kd.R_drewN | apply Kd.R_drew)); exact HO103.out) (Kd.R_base ho16) hb); have n1_ := Aside0.mk (Kd.R_lower (Kd.R_new' ho16 (Kd.R_lt (by (with_reducible repeat (first | apply Kd.R_alloc | apply Kd.R_drewN | apply Kd.R_drew)); exact HO103.out))) (below_size (by repeat (first | (with_reducible first | exact HB.out | apply below_alloc | apply pw_below_drewN | apply below_drew1) | exact HB.out)))); have n2_ := Aside0.mk (below_step (by repeat (first | (with_reducible first | exact HB.out | apply below_alloc | apply pw_below_drewN | apply below_drew1) | exact HB.out)) hb); clear HO103; clear HB; have HO103 := n0_; have HO108 := n1_; have HB := n2_; clear n0_ n1_ n2_; clear hb ho16; obtain ⟨Ao17, co17, eo17⟩ := Kd.R_slice HO108.out; subst eo17) | ((with_reducible refine gate_callee (f := 13) rfl ?_); refine goesL_ (some 16) rfl rfl Try.func13 (by kernel_rfl) rfl #[.slice Ao17 y106.length co17] rfl (by (try simp only [List.map_toArray, List.map_cons, List.map_nil]); first | done | rfl | (simp only [List.length_drop, List.length_take]; rfl)) ?_; (with_reducible refine (well_Depth.calls k _ _ y106 t109 t110 _ ?side1 ?side2 A2.out).mono ?_); (case side1 => repeat (first | exact (Kd.R_reads' HO108.out).2.2 | (with_reducible refine Kd.C_alloc ?_ _) | (with_reducible refine Kd.C_drewN ?_ _) | (with_reducible refine Kd.C_drew ?_))); (case side2 => exact (Kd.R_reads' HO108.out).2.1); rintro e w18 ⟨rfl, hb⟩; refine ⟨_, rfl, ?_⟩; have n0_ := Aside0.mk (Kd.R_below (by (with_reducible repeat (first | apply Kd.R_alloc | apply Kd.R_drewN | apply Kd.R_drew)); exact HO103.out) hb); have n1_ := Aside0.mk (Kd.R_below (by (with_reducible repeat (first | apply Kd.R_alloc | apply Kd.R_drewN | apply Kd.R_drew)); exact HO108.out) hb); have n2_ := Aside0.mk (below_step (by repeat (first | (with_reducible first | exact HB.out | apply below_alloc | apply pw_below_drewN | apply below_drew1) | exact HB.out)) hb); clear HO103; clear HO108; clear HB; have HO103 := n0_; have HO108 := n1_; have HB := n2_; clear n0_ n1_ n2_; (try clear hb); (try clear hb2); (try clear hk); (try clear hi)) | ((with_reducible refine gate_dst (N := 20) rfl ?_); (try (refine gate_guard (by rfl) ?_; dsimp only)); refine Kd.R_lit (Kd.int .u8) _ 5 ?hg (N := 20) ?hd (xs := ([48, 3, 2, 1, 5] : List Int)) (inner := [.int .u8 48, .int .u8 3, .int .u8 2, .int .u8 1, .int .u8 5]) (ok := fun _ => True) (okp := fun _ => True) ?hr ?hp (fun _ hk => hk) trivial (Below.refl _ _) (Nat.le_refl _) (by simp) ?_; (case hd => rfl); (case hg => rfl); (case hr => first | (go_simp; done) | (go_simp; rfl)); (case hp => exact (Reps.one (show Kd.M (Kd.int .u8) _ _ _ 48 [.int .u8 48] from rfl) (Reps.one (show Kd.M (Kd.int .u8) _ _ _ 3 [.int .u8 3] from rfl) (Reps.one (show Kd.M (Kd.int .u8) _ _ _ 2 [.int .u8 2] from rfl) (Reps.one (show Kd.M (Kd.int .u8) _ _ _ 1 [.int .u8 1] from rfl) (Reps.one (show Kd.M (Kd.int .u8) _ _ _ 5 [.int .u8 5] from rfl) (Reps.none _ _))))))); intro v112 w19 ho20 hb hg_ hnew_; clear hg_ hnew_; (first | rw [← Ny111.out] at ho20 | (simp only [Int.reduceToNat] at ho20; rw [← Ny111.out] at ho20)); have n0_ := Aside0.mk (Kd.R_elder' (by (with_reducible repeat (first | apply Kd.R_alloc | apply Kd.R_drewN | apply Kd.R_drew)); exact HO103.out) (Kd.R_base ho20) hb); have n1_ := Aside0.mk (Kd.R_elder' (by (with_reducible repeat (first | apply Kd.R_alloc | apply Kd.R_drewN | apply Kd.R_drew)); exact HO108.out) (Kd.R_base ho20) hb); have n2_ := Aside0.mk (Kd.R_lower (Kd.R_new' (Kd.R_new' ho20 (Kd.R_lt (by (with_reducible repeat (first | apply Kd.R_alloc | apply Kd.R_drewN | apply Kd.R_drew)); exact HO103.out))) (Kd.R_lt (by (with_reducible repeat (first | apply Kd.R_alloc | apply Kd.R_drewN | apply Kd.R_drew)); exact HO108.out))) (below_size (by repeat (first | (with_reducible first | exact HB.out | apply below_alloc | apply pw_below_drewN | apply below_drew1) | exact HB.out)))); have n3_ := Aside0.mk (below_step (by repeat (first | (with_reducible first | exact HB.out | apply below_alloc | apply pw_below_drewN | apply below_drew1) | exact HB.out)) hb); clear HO103; clear HO108; clear HB; have HO103 := n0_; have HO108 := n1_; have HO113 := n2_; have HB := n3_; clear n0_ n1_ n2_ n3_; clear hb ho20; obtain ⟨Ao21, co21, eo21⟩ := Kd.R_slice HO113.out; subst eo21) | ((with_reducible refine gate_callee (f := 12) rfl ?_); refine goesL_ (some 21) rfl rfl Try.func12 (by kernel_rfl) rfl #[.slice Ao21 y111.length co21] rfl (by (try simp only [List.map_toArray, List.map_cons, List.map_nil]); first | done | rfl | (simp only [List.length_drop, List.length_take]; rfl)) ?_; (with_reducible refine (well_Parts.calls k _ _ y111 t114 t115 _ ?side1 ?side2 A3.out).mono ?_); (case side1 => repeat (first | exact (Kd.R_reads' HO113.out).2.2 | (with_reducible refine Kd.C_alloc ?_ _) | (with_reducible refine Kd.C_drewN ?_ _) | (with_reducible refine Kd.C_drew ?_))); (case side2 => exact (Kd.R_reads' HO113.out).2.1); rintro e w22 ⟨v116, rfl, ho0, hb⟩; refine ⟨_, rfl, ?_⟩; have n0_ := Aside0.mk (Kd.R_below (by (with_reducible repeat (first | apply Kd.R_alloc | apply Kd.R_drewN | apply Kd.R_drew)); exact HO103.out) hb); have n1_ := Aside0.mk (Kd.R_below (by (with_reducible repeat (first | apply Kd.R_alloc | apply Kd.R_drewN | apply Kd.R_drew)); exact HO108.out) hb); have n2_ := Aside0.mk (Kd.R_below (by (with_reducible repeat (first | apply Kd.R_alloc | apply Kd.R_drewN | apply Kd.R_drew)); exact HO113.out) hb); have n3_ := Aside0.mk (Kd.S_lower (Kd.S_new' (Kd.S_new' (Kd.S_new' ho0 (Kd.R_lt (by (with_reducible repeat (first | apply Kd.R_alloc | apply Kd.R_drewN | apply Kd.R_drew)); exact HO103.out))) (Kd.R_lt (by (with_reducible repeat (first | apply Kd.R_alloc | apply Kd.R_drewN | apply Kd.R_drew)); exact HO108.out))) (Kd.R_lt (by (with_reducible repeat (first | apply Kd.R_alloc | apply Kd.R_drewN | apply Kd.R_drew)); exact HO113.out))) (below_size (by repeat (first | (with_reducible first | exact HB.out | apply below_alloc | apply pw_below_drewN | apply below_drew1) | exact HB.out)))); have n4_ := Aside0.mk (below_step (by repeat (first | (with_reducible first | exact HB.out | apply below_alloc | apply pw_below_drewN | apply below_drew1) | exact HB.out)) hb); clear HO103; clear HO108; clear HO113; clear HB; have HO103 := n0_; have HO108 := n1_; have HO113 := n2_; have HO117 := n3_; have HB := n4_; clear n0_ n1_ n2_ n3_ n4_; (try clear hb); (try clear hb2); (try clear hk); (try clear hi); (try clear ho0)) | ((with_reducible refine gate_dst (N := 25) rfl ?_); (try (refine gate_guard (by rfl) ?_; dsimp only)); refine Kd.R_lit (Kd.int .u8) _ 5 ?hg (N := 25) ?hd (xs := ([48, 3, 2, 2, 5] : List Int)) (inner := [.int .u8 48, .int .u8 3, .int .u8 2, .int .u8 2, .int .u8 5]) (ok := fun _ => True) (okp := fun _ => True) ?hr ?hp (fun _ hk => hk) trivial (Below.refl _ _) (Nat.le_refl _) (by simp) ?_; (case hd => rfl); (case hg => rfl); (case hr => first | (go_simp; done) | (go_simp; rfl)); (case hp => exact (Reps.one (show Kd.M (Kd.int .u8) _ _ _ 48 [.int .u8 48] from rfl) (Reps.one (show Kd.M (Kd.int .u8) _ _ _ 3 [.int .u8 3] from rfl) (Reps.one (show Kd.M (Kd.int .u8) _ _ _ 2 [.int .u8 2] from rfl) (Reps.one (show Kd.M (Kd.int .u8) _ _ _ 2 [.int .u8 2] from rfl) (Reps.one (show Kd.M (Kd.int .u8) _ _ _ 5 [.int .u8 5] from rfl) (Reps.none _ _))))))); intro v119 w23 ho24 hb hg_ hnew_; clear hg_ hnew_; (first | rw [← Ny118.out] at ho24 | (simp only [Int.reduceToNat] at ho24; rw [← Ny118.out] at ho24)); have n0_ := Aside0.mk (Kd.R_elder' (by (with_reducible repeat (first | apply Kd.R_alloc | apply Kd.R_drewN | apply Kd.R_drew)); exact HO103.out) (Kd.R_base ho24) hb); have n1_ := Aside0.mk (Kd.R_elder' (by (with_reducible repeat (first | apply Kd.R_alloc | apply Kd.R_drewN | apply Kd.R_drew)); exact HO108.out) (Kd.R_base ho24) hb); have n2_ := Aside0.mk (Kd.R_elder' (by (with_reducible repeat (first | apply Kd.R_alloc | apply Kd.R_drewN | apply Kd.R_drew)); exact HO113.out) (Kd.R_base ho24) hb); have n3_ := Aside0.mk (Kd.S_elder' (by (with_reducible repeat (first | apply Kd.S_alloc | apply Kd.S_drewN | apply Kd.S_drew)); exact HO117.out) (Kd.R_base ho24) hb); have n4_ := Aside0.mk (Kd.R_lower (Kd.R_new' (Kd.R_new' (Kd.R_new' ho24 (Kd.R_lt (by (with_reducible repeat (first | apply Kd.R_alloc | apply Kd.R_drewN | apply Kd.R_drew)); exact HO103.out))) (Kd.R_lt (by (with_reducible repeat (first | apply Kd.R_alloc | apply Kd.R_drewN | apply Kd.R_drew)); exact HO108.out))) (Kd.R_lt (by (with_reducible repeat (first | apply Kd.R_alloc | apply Kd.R_drewN | apply Kd.R_drew)); exact HO113.out))) (below_size (by repeat (first | (with_reducible first | exact HB.out | apply below_alloc | apply pw_below_drewN | apply below_drew1) | exact HB.out)))); have n5_ := Aside0.mk (below_step (by repeat (first | (with_reducible first | exact HB.out | apply below_alloc | apply pw_below_drewN | apply below_drew1) | exact HB.out)) hb); clear HO103; clear HO108; clear HO113; clear HO117; clear HB; have HO103 := n0_; have HO108 := n1_; have HO113 := n2_; have HO117 := n3_; have HO120 := n4_; have HB := n5_; clear n0_ n1_ n2_ n3_ n4_ n5_; clear hb ho24; obtain ⟨Ao25, co25, eo25⟩ := Kd.R_slice HO120.out; subst eo25) | ((with_reducible refine gate_callee (f := 11) rfl ?_); refine goesL_ (some 26) rfl rfl Try.func11 (by kernel_rfl) rfl #[.slice Ao25 y118.length co25] rfl (by (try simp only [List.map_toArray, List.map_cons, List.map_nil]); first | done | rfl | (simp only [List.length_drop, List.length_take]; rfl)) ?_; (with_reducible refine (well_Check.calls k _ _ y118 t121 t122 _ ?side1 ?side2 A4.out).mono ?_); (case side1 => repeat (first | exact (Kd.R_reads' HO120.out).2.2 | (with_reducible refine Kd.C_alloc ?_ _) | (with_reducible refine Kd.C_drewN ?_ _) | (with_reducible refine Kd.C_drew ?_))); (case side2 => exact (Kd.R_reads' HO120.out).2.1); rintro e w26 ⟨rfl, hb⟩; refine ⟨_, rfl, ?_⟩; have n0_ := Aside0.mk (Kd.R_below (by (with_reducible repeat (first | apply Kd.R_alloc | apply Kd.R_drewN | apply Kd.R_drew)); exact HO103.out) hb); have n1_ := Aside0.mk (Kd.R_below (by (with_reducible repeat (first | apply Kd.R_alloc | apply Kd.R_drewN | apply Kd.R_drew)); exact HO108.out) hb); have n2_ := Aside0.mk (Kd.R_below (by (with_reducible repeat (first | apply Kd.R_alloc | apply Kd.R_drewN | apply Kd.R_drew)); exact HO113.out) hb); have n3_ := Aside0.mk (Kd.S_below (by (with_reducible repeat (first | apply Kd.S_alloc | apply Kd.S_drewN | apply Kd.S_drew)); exact HO117.out) hb); have n4_ := Aside0.mk (Kd.R_below (by (with_reducible repeat (first | apply Kd.R_alloc | apply Kd.R_drewN | apply Kd.R_drew)); exact HO120.out) hb); have n5_ := Aside0.mk (below_step (by repeat (first | (with_reducible first | exact HB.out | apply below_alloc | apply pw_below_drewN | apply below_drew1) | exact HB.out)) hb); clear HO103; clear HO108; clear HO113; clear HO117; clear HO120; clear HB; have HO103 := n0_; have HO108 := n1_; have HO113 := n2_; have HO117 := n3_; have HO120 := n4_; have HB := n5_; clear n0_ n1_ n2_ n3_ n4_ n5_; (try clear hb); (try clear hb2); (try clear hk); (try clear hi); obtain ⟨Ao27, co27, eo27⟩ := Kd.S_slice HO117.out; subst eo27))
              go_ret
              exact ⟨by first | rfl | (simp [errW_none, errW_some] <;> rfl) | (simp [*, errW_none, errW_some] <;> rfl), by repeat (first | (with_reducible first | exact HB.out | apply below_alloc | apply pw_below_drewN | apply below_drew1) | exact HB.out)⟩
            · rw [if_neg c10] at H
              have c10b0 : (t122 == 2) = false := beq_eq_false_iff_ne.mpr c10
              have c10b1 : (t122 != 2) = true := bne_iff_ne.mpr c10
              exact absurd ((Option.some.inj H).trans hrt.out) (by decide)
          · rw [if_neg c9] at H
            have c9b0 : ((t114.length : Int) == 1) = false := beq_eq_false_iff_ne.mpr c9
            have c9b1 : ((t114.length : Int) != 1) = true := bne_iff_ne.mpr c9
            exact absurd ((Option.some.inj H).trans hrt.out) (by decide)
        · rw [if_neg c8] at H
          have c8b0 : (t109 == 2) = false := beq_eq_false_iff_ne.mpr c8
          have c8b1 : (t109 != 2) = true := bne_iff_ne.mpr c8
          exact absurd ((Option.some.inj H).trans hrt.out) (by decide)
      · rw [if_neg c7] at H
        have c7b0 : (t115 == 0) = false := beq_eq_false_iff_ne.mpr c7
        have c7b1 : (t115 != 0) = true := bne_iff_ne.mpr c7
        exact absurd ((Option.some.inj H).trans hrt.out) (by decide)
    · rw [if_neg c6] at H
      have c6b0 : (t110 == 0) = false := beq_eq_false_iff_ne.mpr c6
      have c6b1 : (t110 != 0) = true := bne_iff_ne.mpr c6
      exact absurd ((Option.some.inj H).trans hrt.out) (by decide)
  · rw [if_neg c5] at H
    have c5b0 : (t105 == 0) = false := beq_eq_false_iff_ne.mpr c5
    have c5b1 : (t105 != 0) = true := bne_iff_ne.mpr c5
    exact absurd ((Option.some.inj H).trans hrt.out) (by decide)

/-! ### sobriquetref01_Read: function 17 -/
theorem rr_two (w : World) (a b : Obj) : ((w.alloc a).alloc b).heap[w.heap.size + 1]? = some b ∧ ((w.alloc a).alloc b).heap[w.heap.size]? = some a := by
  have h1 := blk_new (w.alloc a) b
  have h2 := blk_alloc (blk_new w a) b
  rw [show (w.alloc a).heap.size = w.heap.size + 1 by simp] at h1
  exact ⟨h1, h2⟩
theorem rr_put (W : World) (g : Nat) (t : TypeId) (a0 a1 a2 a3 a4 b0 b1 b2 b3 b4 : Value) (h : W.heap[g]? = some (.cells #[a0, a1, a2, a3, a4] t (0, 0))) :
    (((((W.setCell ⟨g, 0, none⟩ b0).setCell ⟨g, 1, none⟩ b1).setCell ⟨g, 2, none⟩ b2).setCell ⟨g, 3, none⟩ b3).setCell ⟨g, 4, none⟩ b4).heap[g]? = some (.cells #[b0, b1, b2, b3, b4] t (0, 0)) := by
  refine blk_put (cs := #[b0, b1, b2, b3, a4]) ?_ 4 _ rfl
  refine blk_put (cs := #[b0, b1, b2, a3, a4]) ?_ 3 _ rfl
  refine blk_put (cs := #[b0, b1, a2, a3, a4]) ?_ 2 _ rfl
  refine blk_put (cs := #[b0, a1, a2, a3, a4]) ?_ 1 _ rfl
  exact blk_put h 0 _ rfl
def ref_tag : Nat → List Int → Int → Int → Option (Int × Int × Int)
  | 0, _, _, _ => none
  | k + 1, l, p, n =>
    if p ≥ (l.length : Int) then some (0, 2, p) else
    if 0 ≤ p ∧ p ≤ 1000000000000 ∧ 0 ≤ rd l p ∧ rd l p < 256 ∧ 0 ≤ n ∧ n ≤ 268435455 then
      (if p = 1 ∧ rd l p = 128 then some (0, 3, p) else
       if n * 128 + rd l p % 128 > 268435455 then some (0, 3, p) else
       if rd l p ≥ 128 then ref_tag k l (p + 1) (n * 128 + rd l p % 128) else
       if n * 128 + rd l p % 128 < 31 then some (0, 3, p) else some (n * 128 + rd l p % 128, 0, p + 1))
    else none
def ref_lenL : Nat → List Int → Int → Int → Int → Int → Option (Int × Int × Int)
  | 0, _, _, _, _, _ => none
  | k + 1, l, m, i, p, n =>
    if i < m then
      (if p ≥ (l.length : Int) then some (0, 2, p) else
       if 0 ≤ p ∧ p ≤ 1000000000000 ∧ 0 ≤ rd l p ∧ rd l p < 256 ∧ 0 ≤ n ∧ n ≤ 1099511627776 ∧ 0 ≤ i ∧ i ≤ 10 then
         (if i = 0 ∧ rd l p = 0 then some (0, 4, p) else ref_lenL k l m (i + 1) (p + 1) (n * 256 + rd l p))
       else none)
    else if n > 2147483647 then some (0, 4, p) else if n < 128 then some (0, 4, p) else some (n, 0, p)
def ref_len (k : Nat) (l : List Int) (p : Int) : Option (Int × Int × Int) :=
  if p ≥ (l.length : Int) then some (0, 2, p) else
  if 0 ≤ p ∧ p ≤ 1000000000000 ∧ 0 ≤ rd l p ∧ rd l p < 256 then
    (if rd l p < 128 then some (rd l p, 0, p + 1) else if rd l p = 128 then some (0, 4, p) else if rd l p - 128 > 4 then some (0, 4, p) else ref_lenL k l (rd l p - 128) 0 (p + 1) 0)
  else none
def sobriquetref01_Read.f (k : Nat) (l : List Int) : Option (Int × Int × Bool × Int × Int × Int) :=
  if l.length = 0 then some (0, 0, false, 0, 0, 2) else
  if 0 ≤ rd l 0 ∧ rd l 0 < 256 ∧ l.length ≤ 1000000000000 then
    (if rd l 0 % 32 = 31 then ref_tag k l 1 0 else some (rd l 0 % 32, 0, 1)).bind fun t =>
      if t.2.1 = 0 then (ref_len k l t.2.2).bind fun n => if n.2.1 = 0 then some (rd l 0 / 64, t.1, (rd l 0 / 32 % 2 == 1), n.1, n.2.2, 0) else some (0, 0, false, 0, 0, n.2.1)
      else some (0, 0, false, 0, 0, t.2.1)
  else none
/-- The three blocks that the call lays: the result, the zero head, the head that is read. -/
def R3 (w : World) (g0 g1 g2 : Nat) (c t : Int) (b : Bool) (n z : Int) (W : World) : Prop :=
  W.heap[g0]? = some (.cells #[.int .i64 0, .int .i64 0, .bool false, .int .i64 0, .int .i64 0] 35 (0, 0)) ∧
  W.heap[g1]? = some (.cells #[.int .i64 0, .int .i64 0, .bool false, .int .i64 0, .int .i64 0] 35 (0, 0)) ∧
  W.heap[g2]? = some (.cells #[.int .i64 c, .int .i64 t, .bool b, .int .i64 n, .int .i64 z] 35 (0, 0)) ∧ Below w.heap.size w W ∧ (w.heap.size ≤ g0 ∧ w.heap.size ≤ g2 ∧ g2 ≠ g0 ∧ g2 ≠ g1)
def RPost (w : World) (r1 r2 : Int) (r3 : Bool) (r4 r5 r6 : Int) (e : Ending) (w' : World) : Prop := e = .returned (.tuple #[.agg #[.int .i64 r1, .int .i64 r2, .bool r3, .int .i64 r4, .int .i64 r5], .int .i64 r6]) ∧ Below w.heap.size w w'
theorem r3_new (w : World) (c t : Int) (b : Bool) : R3 w w.heap.size (w.heap.size + 1) (w.heap.size + 1 + 1) c t b 0 0 (((w.alloc (.cells #[.int .i64 0, .int .i64 0, .bool false, .int .i64 0, .int .i64 0] 35)).alloc (.cells #[.int .i64 0, .int .i64 0, .bool false, .int .i64 0, .int .i64 0] 35)).alloc (.cells #[.int .i64 c, .int .i64 t, .bool b, .int .i64 0, .int .i64 0] 35)).drew := by
  have e1 : ((w.alloc (.cells #[.int .i64 0, .int .i64 0, .bool false, .int .i64 0, .int .i64 0] 35)).alloc (.cells #[.int .i64 0, .int .i64 0, .bool false, .int .i64 0, .int .i64 0] 35)).heap.size = w.heap.size + 1 + 1 := by simp
  have h := rr_two w (.cells #[.int .i64 0, .int .i64 0, .bool false, .int .i64 0, .int .i64 0] 35) (.cells #[.int .i64 0, .int .i64 0, .bool false, .int .i64 0, .int .i64 0] 35)
  refine ⟨blk_drew (blk_alloc h.2 _), blk_drew (blk_alloc h.1 _), ?_, below_drew (below_alloc (below_alloc (below_alloc (Below.refl _ _) _) _) _), by omega⟩
  have := blk_new ((w.alloc (.cells #[.int .i64 0, .int .i64 0, .bool false, .int .i64 0, .int .i64 0] 35)).alloc (.cells #[.int .i64 0, .int .i64 0, .bool false, .int .i64 0, .int .i64 0] 35)) (.cells #[.int .i64 c, .int .i64 t, .bool b, .int .i64 0, .int .i64 0] 35)
  rw [e1] at this
  exact blk_drew this
theorem r3_drew {w W : World} {g0 g1 g2 : Nat} {c t : Int} {b : Bool} {n z : Int} (h : R3 w g0 g1 g2 c t b n z W) : R3 w g0 g1 g2 c t b n z W.drew := ⟨blk_drew h.1, blk_drew h.2.1, blk_drew h.2.2.1, below_drew h.2.2.2.1, h.2.2.2.2⟩
theorem r3_tag {w W : World} {g0 g1 g2 : Nat} {c t : Int} {b : Bool} {n z : Int} (h : R3 w g0 g1 g2 c t b n z W) (x : Int) : R3 w g0 g1 g2 c x b n z (W.setCell ⟨g2, 1, none⟩ (.int .i64 x)) :=
  ⟨blk_far h.1 (Ne.symm h.2.2.2.2.2.2.1) _, blk_far h.2.1 (Ne.symm h.2.2.2.2.2.2.2) _, blk_put h.2.2.1 1 _ rfl, below_set h.2.2.2.1 h.2.2.2.2.2.1, h.2.2.2.2⟩
theorem r3_len {w W : World} {g0 g1 g2 : Nat} {c t : Int} {b : Bool} {n z : Int} (h : R3 w g0 g1 g2 c t b n z W) (x : Int) : R3 w g0 g1 g2 c t b x z (W.setCell ⟨g2, 3, none⟩ (.int .i64 x)) :=
  ⟨blk_far h.1 (Ne.symm h.2.2.2.2.2.2.1) _, blk_far h.2.1 (Ne.symm h.2.2.2.2.2.2.2) _, blk_put h.2.2.1 3 _ rfl, below_set h.2.2.2.1 h.2.2.2.2.2.1, h.2.2.2.2⟩
theorem r3_size {w W : World} {g0 g1 g2 : Nat} {c t : Int} {b : Bool} {n z : Int} (h : R3 w g0 g1 g2 c t b n z W) (x : Int) : R3 w g0 g1 g2 c t b n x (W.setCell ⟨g2, 4, none⟩ (.int .i64 x)) :=
  ⟨blk_far h.1 (Ne.symm h.2.2.2.2.2.2.1) _, blk_far h.2.1 (Ne.symm h.2.2.2.2.2.2.2) _, blk_put h.2.2.1 4 _ rfl, below_set h.2.2.2.1 h.2.2.2.2.2.1, h.2.2.2.2⟩
theorem rr_set5 {w W : World} {g : Nat} {v0 v1 v2 v3 v4 : Value} (h : Below w.heap.size w W) (hg : w.heap.size ≤ g) :
    Below w.heap.size w (((((W.setCell ⟨g, 0, none⟩ v0).setCell ⟨g, 1, none⟩ v1).setCell ⟨g, 2, none⟩ v2).setCell ⟨g, 3, none⟩ v3).setCell ⟨g, 4, none⟩ v4) :=
  below_set (below_set (below_set (below_set (below_set h hg) hg) hg) hg) hg
theorem rr_cell_below {W W1 : World} {a : Addr} {v : Value} (hb : Below W.heap.size W W1) (h : W.cell? a = some v) : W1.cell? a = some v := (hb.cell (World.block_lt_of_cell? W a h)).trans h
set_option maxHeartbeats 4000000 in
set_option maxRecDepth 100000 in
theorem sobriquetref01_Read.walked (k : Nat) (A0 : Option Addr) (c0 : Nat) (l : List Int) (r1 r2 : Int) (r3 : Bool) (r4 r5 r6 : Int) (w : World) (hr0 : Kd.C (Kd.int .u8) w A0 l.length l) (hc0 : l.length ≤ c0) (h : sobriquetref01_Read.f k l = some (r1, r2, r3, r4, r5, r6)) :
    Calls Try.prog 17 #[.slice A0 l.length c0] w (RPost w r1 r2 r3 r4 r5 r6) := by
  have hu := Try.underlying35
  have HC := Aside0.mk hr0
  clear hr0
  have HF := Aside0.mk h
  clear h
  by_cases hl0 : l.length = 0
  · have F := HF.out
    unfold sobriquetref01_Read.f at F
    rw [if_pos hl0] at F
    simp only [Option.some.injEq, Prod.mk.injEq] at F
    obtain ⟨rfl, rfl, rfl, rfl, rfl, rfl⟩ := F
    have hln : l = [] := List.eq_nil_of_length_eq_zero hl0
    subst hln
    clear HF HC hl0
    simp only [List.length_nil]
    go_enter Try.func17, Try.ntmps17
    go_wp2
    refine bodyPost_ret (results_ct rfl _ _ w.heap.size 35 #[.int .i64 0, .int .i64 0, .bool false, .int .i64 0, .int .i64 0] (0, 0) _ rfl (rr_two w (.cells #[.int .i64 0, .int .i64 0, .bool false, .int .i64 0, .int .i64 0] 35) (.cells #[.int .i64 0, .int .i64 0, .bool false, .int .i64 0, .int .i64 0] 35)).2 Try.underlying35 rfl (by kernel_rfl)) rfl ⟨rfl, ?_⟩
    exact below_alloc (below_alloc (Below.refl _ _) _) _
  have F := HF.out
  unfold sobriquetref01_Read.f at F
  rw [if_neg hl0] at F
  by_cases hg : ¬ (0 ≤ rd l 0 ∧ rd l 0 < 256 ∧ l.length ≤ 1000000000000)
  · rw [if_neg hg] at F; cases F
  replace hg := Decidable.of_not_not hg
  rw [if_pos hg] at F
  obtain ⟨g1, g2, g3⟩ := hg
  obtain ⟨⟨t, et, pt⟩, ht, F⟩ := Option.bind_eq_some_iff.mp F
  dsimp only at F
  obtain ⟨ad, rfl, x0⟩ := Kd.at_int HC.out 0 (Int.le_refl _) (by omega)
  have x0 : w.cell? ad = some (.int .u8 (rd l 0)) := by
    have e : ad.add 0 = ad := by simp [Addr.add]
    have q := x0
    rw [show ((0 : Int).toNat) = 0 from rfl, e] at q
    exact q
  obtain ⟨c, hc⟩ : ∃ c, c = rd l 0 := ⟨_, rfl⟩
  rw [← hc] at x0 g1 g2 ht F
  have had : ad.block < w.heap.size := World.block_lt_of_cell? w _ x0
  have HT := Aside0.mk ht
  have F2 := Aside0.mk F
  clear ht F HF hc
  have b0 : decide ((0 : Int) < (l.length : Int)) = true := decide_eq_true (by omega)
  have b1 : ((l.length : Int) == 0) = false := beq_eq_false_iff_ne.mpr (by omega)
  have b2 : (0 : Int) < (l.length : Int) := by omega
  have b3 : 0 < l.length := by omega
  have b4 : decide (0 < l.length) = true := decide_eq_true b3
  clear hl0
  go_enter Try.func17, Try.ntmps17
  go_wp2
  have hcc : IntKind.i64.wrap c = c := by rw [IntKind.wrap_i64]; omega
  have x1 : (((w.alloc (.cells #[.int .i64 0, .int .i64 0, .bool false, .int .i64 0, .int .i64 0] 35)).alloc (.cells #[.int .i64 0, .int .i64 0, .bool false, .int .i64 0, .int .i64 0] 35))).cell? ad = some (.int .u8 c) := rr_cell_below (below_alloc (Below.refl _ _) _) (rr_cell_below (below_alloc (Below.refl _ _) _) x0)
  have ne0 : ad.block ≠ w.heap.size := by omega
  have ne1 : ad.block ≠ w.heap.size + 1 := by omega
  have ne2 : ad.block ≠ w.heap.size + 2 := by omega
  go_region_held3 (fun w' => w'.cell? ad = some (.int .u8 c)) (first | go_keep | exact rr_cell_below (below_drew (below_alloc (Below.refl _ _) _)) x1 | exact rr_cell_below (below_alloc (below_drew (Below.refl _ _)) _) x1) (fail)
  go_upto_if 34 with (fail)
  have HR := Aside0.mk (r3_new w (c / 64) (c % 32) (c / 32 % 2 == 1))
  generalize (((w.alloc (.cells #[.int .i64 0, .int .i64 0, .bool false, .int .i64 0, .int .i64 0] 35)).alloc (.cells #[.int .i64 0, .int .i64 0, .bool false, .int .i64 0, .int .i64 0] 35)).alloc (.cells #[.int .i64 (c / 64), .int .i64 (c % 32), .bool (c / 32 % 2 == 1), .int .i64 0, .int .i64 0] 35)).drew = W1 at HR ⊢
  clear x1 ne0 ne1 ne2
  have had0 : ad.block ≠ w.heap.size := by omega
  have had1 : ad.block ≠ w.heap.size + 1 := by omega
  have had2 : ad.block ≠ w.heap.size + 1 + 1 := by omega
  generalize hg2 : w.heap.size + 1 + 1 = g2 at HR had2 ⊢
  generalize hg1 : w.heap.size + 1 = g1 at HR had1 hg2 ⊢
  clear hg2 hg1
  generalize hg0 : w.heap.size = g0 at HR had0 ⊢
  have HG0 := Aside0.mk hg0
  clear hg0 hcc b0 b1 b2 b3 b4
  generalize (c / 32 % 2 == 1) = bc at HR F2 ⊢
  go_cut [6] (fun s6 wx => s6 = .int .i64 pt ∧ et = 0 ∧ R3 w g0 g1 g2 (c / 64) t bc 0 0 wx)
  case first => 
    by_cases h31 : c % 32 = 31
    · have ht := HT.out
      rw [if_pos h31] at ht
      have HT2 := Aside0.mk ht
      clear ht HT
      have d1 : ((c % 32 : Int) == 31) = true := beq_iff_eq.mpr h31
      have z0 := blk_cell HR.out.1 0
      have z1 := blk_cell HR.out.1 1
      have z2 := blk_cell HR.out.1 2
      have z3 := blk_cell HR.out.1 3
      have z4 := blk_cell HR.out.1 4
      have f0 := blk_frozen HR.out.1 0
      have f1 := blk_frozen HR.out.1 1
      have f2 := blk_frozen HR.out.1 2
      have f3 := blk_frozen HR.out.1 3
      have f4 := blk_frozen HR.out.1 4
      have y0 := blk_cell HR.out.2.1 0
      have y1 := blk_cell HR.out.2.1 1
      have y2 := blk_cell HR.out.2.1 2
      have y3 := blk_cell HR.out.2.1 3
      have y4 := blk_cell HR.out.2.1 4
      have h0 := blk_cell HR.out.2.2.1 0
      have h1 := blk_cell HR.out.2.2.1 1
      have h2 := blk_cell HR.out.2.2.1 2
      have h3 := blk_cell HR.out.2.2.1 3
      have h4 := blk_cell HR.out.2.2.1 4
      have q1 := blk_frozen HR.out.2.2.1 1
      have q3 := blk_frozen HR.out.2.2.1 3
      have q4 := blk_frozen HR.out.2.2.1 4
      simp only [List.getElem?_toArray, List.getElem?_cons_zero, List.getElem?_cons_succ] at z0 z1 z2 z3 z4 y0 y1 y2 y3 y4 h0 h1 h2 h3 h4
      have ng0 := HR.out.2.2.2.2.2.2.1
      have ng1 := HR.out.2.2.2.2.2.2.2
      go_upto_region 9 with (fail)
      have HR2 := Aside0.mk (r3_tag HR.out 0)
      generalize W1.setCell ⟨g2, 1, none⟩ (.int .i64 0) = W3 at HR2 ⊢
      clear h31 d1 x0 z0 z1 z2 z3 z4 f0 f1 f2 f3 f4 y0 y1 y2 y3 y4 h0 h1 h2 h3 h4 q1 q3 q4 ng0 ng1
      clear HR
      generalize ((c % 32 : Int) == 31) = bz0
      go_loopg [6, 7] k (fun kq v6 v7 w' => ∃ (p n : Int) (m : Bool), v6 = .int .i64 p ∧ v7 = .bool m ∧ Aside0 ((m = true → ref_tag kq l p n = some (t, et, pt)) ∧ (m = false → (if n < 31 then some (0, 3, p - 1) else some (n, 0, p)) = some (t, et, pt))) ∧ Aside0 (R3 w g0 g1 g2 (c / 64) n bc 0 0 w'))
      case atStart => exact ⟨1, 0, true, rfl, rfl, ⟨⟨fun _ => HT2.out, fun q => by cases q⟩⟩, HR2⟩
      case round =>
        obtain ⟨p, n, m, rfl, rfl, HK, HR3⟩ := hrel
        clear HT2 HR2
        have z0 := blk_cell HR3.out.1 0
        have z1 := blk_cell HR3.out.1 1
        have z2 := blk_cell HR3.out.1 2
        have z3 := blk_cell HR3.out.1 3
        have z4 := blk_cell HR3.out.1 4
        have f0 := blk_frozen HR3.out.1 0
        have f1 := blk_frozen HR3.out.1 1
        have f2 := blk_frozen HR3.out.1 2
        have f3 := blk_frozen HR3.out.1 3
        have f4 := blk_frozen HR3.out.1 4
        have y0 := blk_cell HR3.out.2.1 0
        have y1 := blk_cell HR3.out.2.1 1
        have y2 := blk_cell HR3.out.2.1 2
        have y3 := blk_cell HR3.out.2.1 3
        have y4 := blk_cell HR3.out.2.1 4
        have h0 := blk_cell HR3.out.2.2.1 0
        have h1 := blk_cell HR3.out.2.2.1 1
        have h2 := blk_cell HR3.out.2.2.1 2
        have h3 := blk_cell HR3.out.2.2.1 3
        have h4 := blk_cell HR3.out.2.2.1 4
        have q1 := blk_frozen HR3.out.2.2.1 1
        have q3 := blk_frozen HR3.out.2.2.1 3
        have q4 := blk_frozen HR3.out.2.2.1 4
        simp only [List.getElem?_toArray, List.getElem?_cons_zero, List.getElem?_cons_succ] at z0 z1 z2 z3 z4 y0 y1 y2 y3 y4 h0 h1 h2 h3 h4
        have ng0 := HR3.out.2.2.2.2.2.2.1
        have ng1 := HR3.out.2.2.2.2.2.2.2
        cases m with
        | false =>
          have hk := HK.out.2 rfl
          by_cases hb : n < 31
          · rw [if_pos hb] at hk
            simp only [Option.some.injEq, Prod.mk.injEq] at hk
            obtain ⟨rfl, rfl, rfl⟩ := hk
            have F := F2.out
            rw [if_neg (by decide)] at F
            simp only [Option.some.injEq, Prod.mk.injEq] at F
            obtain ⟨rfl, rfl, rfl, rfl, rfl, rfl⟩ := F
            have e1 : decide (n < 31) = true := decide_eq_true hb
            go_wp2
            refine bodyPost_ret (results_ct rfl _ _ g0 35 #[.int .i64 0, .int .i64 0, .bool false, .int .i64 0, .int .i64 0] (0, 0) _ rfl (rr_put _ _ _ _ _ _ _ _ _ _ _ _ _ HR3.out.1) Try.underlying35 rfl (by kernel_rfl)) rfl ⟨rfl, ?_⟩
            exact rr_set5 HR3.out.2.2.2.1 HR3.out.2.2.2.2.1
          · rw [if_neg hb] at hk
            simp only [Option.some.injEq, Prod.mk.injEq] at hk
            obtain ⟨rfl, rfl, rfl⟩ := hk
            have e1 : decide (n < 31) = false := decide_eq_false hb
            go_wp2_with fail
            go_meet
            exact ⟨rfl, trivial, HR3.out⟩
        | true =>
          have hk := HK.out.1 rfl
          clear HK
          cases gk with
          | zero => cases hk
          | succ k1 =>
          rw [ref_tag] at hk
          by_cases hp : p ≥ (l.length : Int)
          · rw [if_pos hp] at hk
            simp only [Option.some.injEq, Prod.mk.injEq] at hk
            obtain ⟨rfl, rfl, rfl⟩ := hk
            have F := F2.out
            rw [if_neg (by decide)] at F
            simp only [Option.some.injEq, Prod.mk.injEq] at F
            obtain ⟨rfl, rfl, rfl, rfl, rfl, rfl⟩ := F
            have e2 : decide ((l.length : Int) ≤ p) = true := decide_eq_true hp
            go_wp2
            refine bodyPost_ret (results_ct rfl _ _ g0 35 #[.int .i64 0, .int .i64 0, .bool false, .int .i64 0, .int .i64 0] (0, 0) _ rfl (rr_put _ _ _ _ _ _ _ _ _ _ _ _ _ HR3.out.1) Try.underlying35 rfl (by kernel_rfl)) rfl ⟨rfl, ?_⟩
            exact rr_set5 HR3.out.2.2.2.1 HR3.out.2.2.2.2.1
          rw [if_neg hp] at hk
          by_cases hg : ¬ (0 ≤ p ∧ p ≤ 1000000000000 ∧ 0 ≤ rd l p ∧ rd l p < 256 ∧ 0 ≤ n ∧ n ≤ 268435455)
          · rw [if_neg hg] at hk; cases hk
          replace hg := Decidable.of_not_not hg
          rw [if_pos hg] at hk
          obtain ⟨j1, j2, j3, j4, j5, j6⟩ := hg
          obtain ⟨ad2, had', xp⟩ := Kd.at_int HC.out p j1 (by omega)
          obtain rfl : ad = ad2 := by simpa using had'
          clear had'
          have xp2 := rr_cell_below HR3.out.2.2.2.1 xp
          obtain ⟨x, hx⟩ : ∃ x, x = rd l p := ⟨_, rfl⟩
          rw [← hx] at xp2 xp j3 j4 hk
          have HXP := Aside0.mk xp
          clear hx xp
          have e2 : decide ((l.length : Int) ≤ p) = false := decide_eq_false hp
          have e3 : p < (l.length : Int) := by omega
          have e4 : decide (p < (l.length : Int)) = true := decide_eq_true e3
          have e5 : decide (0 ≤ p) = true := decide_eq_true j1
          clear hp
          have HK := Aside0.mk hk
          clear hk
          by_cases hz : p = 1 ∧ x = 128
          · have hk := HK.out
            rw [if_pos hz] at hk
            simp only [Option.some.injEq, Prod.mk.injEq] at hk
            obtain ⟨rfl, rfl, rfl⟩ := hk
            have F := F2.out
            rw [if_neg (by decide)] at F
            simp only [Option.some.injEq, Prod.mk.injEq] at F
            obtain ⟨rfl, rfl, rfl, rfl, rfl, rfl⟩ := F
            have b1 : ((p : Int) == 1) = true := beq_iff_eq.mpr hz.1
            have b2 : ((x : Int) == 128) = true := beq_iff_eq.mpr hz.2
            clear hz
            go_wp2
            refine bodyPost_ret (results_ct rfl _ _ g0 35 #[.int .i64 0, .int .i64 0, .bool false, .int .i64 0, .int .i64 0] (0, 0) _ rfl (rr_put _ _ _ _ _ _ _ _ _ _ _ _ _ HR3.out.1) Try.underlying35 rfl (by kernel_rfl)) rfl ⟨rfl, ?_⟩
            exact rr_set5 HR3.out.2.2.2.1 HR3.out.2.2.2.2.1
          have hk := HK.out
          rw [if_neg hz] at hk
          have HK2 := Aside0.mk hk
          clear hk HK
          go_upto_region 13 with (fail)
          go_cut [52] (fun s52 wx => s52 = .bool false ∧ wx = wr)
          case first =>
            by_cases hi0 : p = 1
            · have b1 : ((x : Int) == 128) = false := beq_eq_false_iff_ne.mpr (fun q => hz ⟨hi0, q⟩)
              have b2 : ((p : Int) == 1) = true := beq_iff_eq.mpr hi0
              clear hz hi0
              go_wp2_with fail
              go_meet
              exact ⟨rfl, rfl⟩
            · have b1 : ((p : Int) == 1) = false := beq_eq_false_iff_ne.mpr hi0
              clear hz hi0
              go_wp2_with fail
              go_meet
              exact ⟨rfl, rfl⟩
          case rest =>
          rename World => wr2
          obtain ⟨rfl, rfl⟩ := hcut
          clear hz
          have s4 : IntKind.i64.wrap (n * 128) = n * 128 := by rw [IntKind.wrap_i64]; omega
          have s5 : IntKind.i64.wrap (n * 128 + x % 128) = n * 128 + x % 128 := by rw [IntKind.wrap_i64]; omega
          have s6 : IntKind.i64.wrap x = x := by rw [IntKind.wrap_i64]; omega
          have s7 : IntKind.i64.wrap (p + 1) = p + 1 := by rw [IntKind.wrap_i64]; omega
          go_wp2_with fail
          go_region
          go_upto_region 16 with (fail)
          have HR4 := Aside0.mk (r3_drew (r3_tag HR3.out (n * 128 + x % 128)))
          generalize (wr2.setCell ⟨g2, 1, none⟩ (.int .i64 (n * 128 + x % 128))).drew = W4 at HR4 ⊢
          clear xp2 s4 s5 HR3 z0 z1 z2 z3 z4 f0 f1 f2 f3 f4 y0 y1 y2 y3 y4 h0 h1 h2 h3 h4 q1 q3 q4 ng0 ng1
          have xp2 := rr_cell_below HR4.out.2.2.2.1 HXP.out
          have z0 := blk_cell HR4.out.1 0
          have z1 := blk_cell HR4.out.1 1
          have z2 := blk_cell HR4.out.1 2
          have z3 := blk_cell HR4.out.1 3
          have z4 := blk_cell HR4.out.1 4
          have f0 := blk_frozen HR4.out.1 0
          have f1 := blk_frozen HR4.out.1 1
          have f2 := blk_frozen HR4.out.1 2
          have f3 := blk_frozen HR4.out.1 3
          have f4 := blk_frozen HR4.out.1 4
          have y0 := blk_cell HR4.out.2.1 0
          have y1 := blk_cell HR4.out.2.1 1
          have y2 := blk_cell HR4.out.2.1 2
          have y3 := blk_cell HR4.out.2.1 3
          have y4 := blk_cell HR4.out.2.1 4
          have h0 := blk_cell HR4.out.2.2.1 0
          have h1 := blk_cell HR4.out.2.2.1 1
          have h2 := blk_cell HR4.out.2.2.1 2
          have h3 := blk_cell HR4.out.2.2.1 3
          have h4 := blk_cell HR4.out.2.2.1 4
          have q1 := blk_frozen HR4.out.2.2.1 1
          have q3 := blk_frozen HR4.out.2.2.1 3
          have q4 := blk_frozen HR4.out.2.2.1 4
          simp only [List.getElem?_toArray, List.getElem?_cons_zero, List.getElem?_cons_succ] at z0 z1 z2 z3 z4 y0 y1 y2 y3 y4 h0 h1 h2 h3 h4
          have ng0 := HR4.out.2.2.2.2.2.2.1
          have ng1 := HR4.out.2.2.2.2.2.2.2
          have hk := HK2.out
          by_cases hbig : n * 128 + x % 128 > 268435455
          · rw [if_pos hbig] at hk
            simp only [Option.some.injEq, Prod.mk.injEq] at hk
            obtain ⟨rfl, rfl, rfl⟩ := hk
            have F := F2.out
            rw [if_neg (by decide)] at F
            simp only [Option.some.injEq, Prod.mk.injEq] at F
            obtain ⟨rfl, rfl, rfl, rfl, rfl, rfl⟩ := F
            have b1 : decide (268435455 < n * 128 + x % 128) = true := decide_eq_true hbig
            go_wp2
            refine bodyPost_ret (results_ct rfl _ _ g0 35 #[.int .i64 0, .int .i64 0, .bool false, .int .i64 0, .int .i64 0] (0, 0) _ rfl (rr_put _ _ _ _ _ _ _ _ _ _ _ _ _ HR4.out.1) Try.underlying35 rfl (by kernel_rfl)) rfl ⟨rfl, ?_⟩
            exact rr_set5 HR4.out.2.2.2.1 HR4.out.2.2.2.2.1
          rw [if_neg hbig] at hk
          have b1 : decide (268435455 < n * 128 + x % 128) = false := decide_eq_false hbig
          by_cases hm : x ≥ 128
          · rw [if_pos hm] at hk
            have HK3 := Aside0.mk hk
            have b2 : decide (128 ≤ x) = true := decide_eq_true hm
            clear hk HK2
            go_wp2_with fail
            go_roundg k1
            case measure => omega
            case rel => exact ⟨p + 1, n * 128 + x % 128, true, rfl, rfl, ⟨⟨fun _ => HK3.out, fun q => by cases q⟩⟩, HR4⟩
          · rw [if_neg hm] at hk
            have HK3 := Aside0.mk hk
            have b2 : decide (128 ≤ x) = false := decide_eq_false hm
            clear hk HK2
            go_wp2_with fail
            go_roundg k1
            case measure => omega
            case rel => exact ⟨p + 1, n * 128 + x % 128, false, rfl, rfl, ⟨⟨fun q => (by cases q), fun _ => (by rw [show p + 1 - 1 = p by omega]; exact HK3.out)⟩⟩, HR4⟩
    · have ht := HT.out
      rw [if_neg h31] at ht
      simp only [Option.some.injEq, Prod.mk.injEq] at ht
      obtain ⟨rfl, rfl, rfl⟩ := ht
      have d1 : ((c % 32 : Int) == 31) = false := beq_eq_false_iff_ne.mpr h31
      clear h31
      go_wp2_with fail
      go_meet
      exact ⟨rfl, trivial, HR.out⟩

  case rest =>
    rename World => W2
    obtain ⟨rfl, rfl, hR⟩ := hcut
    have HR2 := Aside0.mk hR
    clear hR HR HT x0
    have F := F2.out
    rw [if_pos rfl] at F
    obtain ⟨⟨n, en, pn⟩, hlen, F⟩ := Option.bind_eq_some_iff.mp F
    dsimp only at F
    have F3 := Aside0.mk F
    clear F F2
    unfold ref_len at hlen
    have z0 := blk_cell HR2.out.1 0
    have z1 := blk_cell HR2.out.1 1
    have z2 := blk_cell HR2.out.1 2
    have z3 := blk_cell HR2.out.1 3
    have z4 := blk_cell HR2.out.1 4
    have f0 := blk_frozen HR2.out.1 0
    have f1 := blk_frozen HR2.out.1 1
    have f2 := blk_frozen HR2.out.1 2
    have f3 := blk_frozen HR2.out.1 3
    have f4 := blk_frozen HR2.out.1 4
    have y0 := blk_cell HR2.out.2.1 0
    have y1 := blk_cell HR2.out.2.1 1
    have y2 := blk_cell HR2.out.2.1 2
    have y3 := blk_cell HR2.out.2.1 3
    have y4 := blk_cell HR2.out.2.1 4
    have h0 := blk_cell HR2.out.2.2.1 0
    have h1 := blk_cell HR2.out.2.2.1 1
    have h2 := blk_cell HR2.out.2.2.1 2
    have h3 := blk_cell HR2.out.2.2.1 3
    have h4 := blk_cell HR2.out.2.2.1 4
    have q1 := blk_frozen HR2.out.2.2.1 1
    have q3 := blk_frozen HR2.out.2.2.1 3
    have q4 := blk_frozen HR2.out.2.2.1 4
    simp only [List.getElem?_toArray, List.getElem?_cons_zero, List.getElem?_cons_succ] at z0 z1 z2 z3 z4 y0 y1 y2 y3 y4 h0 h1 h2 h3 h4
    have ng0 := HR2.out.2.2.2.2.2.2.1
    have ng1 := HR2.out.2.2.2.2.2.2.2
    by_cases hp : pt ≥ (l.length : Int)
    · rw [if_pos hp] at hlen
      simp only [Option.some.injEq, Prod.mk.injEq] at hlen
      obtain ⟨rfl, rfl, rfl⟩ := hlen
      have F := F3.out
      rw [if_neg (by decide)] at F
      simp only [Option.some.injEq, Prod.mk.injEq] at F
      obtain ⟨rfl, rfl, rfl, rfl, rfl, rfl⟩ := F
      have d1 : decide ((l.length : Int) ≤ pt) = true := decide_eq_true hp
      go_wp2
      refine bodyPost_ret (results_ct rfl _ _ g0 35 #[.int .i64 0, .int .i64 0, .bool false, .int .i64 0, .int .i64 0] (0, 0) _ rfl (rr_put _ _ _ _ _ _ _ _ _ _ _ _ _ HR2.out.1) Try.underlying35 rfl (by kernel_rfl)) rfl ⟨rfl, ?_⟩
      exact rr_set5 HR2.out.2.2.2.1 HR2.out.2.2.2.2.1
    rw [if_neg hp] at hlen
    by_cases hg : ¬ (0 ≤ pt ∧ pt ≤ 1000000000000 ∧ 0 ≤ rd l pt ∧ rd l pt < 256)
    · rw [if_neg hg] at hlen; cases hlen
    replace hg := Decidable.of_not_not hg
    rw [if_pos hg] at hlen
    obtain ⟨g4, g5, g6, g7⟩ := hg
    obtain ⟨ad2, had', xp⟩ := Kd.at_int HC.out pt g4 (by omega)
    obtain rfl : ad = ad2 := by simpa using had'
    clear had'
    have xp2 := rr_cell_below HR2.out.2.2.2.1 xp
    clear xp
    obtain ⟨x, hx⟩ : ∃ x, x = rd l pt := ⟨_, rfl⟩
    rw [← hx] at xp2 g6 g7 hlen
    clear hx
    have HLEN := Aside0.mk hlen
    clear hlen
    have d1 : decide ((l.length : Int) ≤ pt) = false := decide_eq_false hp
    have d2 : pt < (l.length : Int) := by omega
    have d3 : decide (pt < (l.length : Int)) = true := decide_eq_true d2
    have d4 : decide (0 ≤ pt) = true := decide_eq_true g4
    have s1 : IntKind.i64.wrap x = x := by rw [IntKind.wrap_i64]; omega
    have s2 : IntKind.i64.wrap (pt + 1) = pt + 1 := by rw [IntKind.wrap_i64]; omega
    clear hp
    by_cases h128 : x < 128
    · have hl := HLEN.out
      rw [if_pos h128] at hl
      simp only [Option.some.injEq, Prod.mk.injEq] at hl
      obtain ⟨rfl, rfl, rfl⟩ := hl
      have F := F3.out
      rw [if_pos rfl] at F
      simp only [Option.some.injEq, Prod.mk.injEq] at F
      obtain ⟨rfl, rfl, rfl, rfl, rfl, rfl⟩ := F
      have d5 : decide (x < 128) = true := decide_eq_true h128
      go_wp2
      refine bodyPost_ret (results_ct rfl _ _ g0 35 #[.int .i64 (c / 64), .int .i64 t, .bool bc, .int .i64 x, .int .i64 (pt + 1)] (0, 0) _ rfl (rr_put _ _ _ _ _ _ _ _ _ _ _ _ _ (r3_size (r3_len HR2.out x) (pt + 1)).1) Try.underlying35 rfl (by kernel_rfl)) rfl ⟨rfl, ?_⟩
      exact rr_set5 (r3_size (r3_len HR2.out x) (pt + 1)).2.2.2.1 (r3_size (r3_len HR2.out x) (pt + 1)).2.2.2.2.1
    have s3 : IntKind.i64.wrap (x - 128) = x - 128 := by rw [IntKind.wrap_i64]; omega
    have d5 : decide (x < 128) = false := decide_eq_false h128
    by_cases h0' : x = 128
    · have hl := HLEN.out
      rw [if_neg h128, if_pos h0'] at hl
      simp only [Option.some.injEq, Prod.mk.injEq] at hl
      obtain ⟨rfl, rfl, rfl⟩ := hl
      have F := F3.out
      rw [if_neg (by decide)] at F
      simp only [Option.some.injEq, Prod.mk.injEq] at F
      obtain ⟨rfl, rfl, rfl, rfl, rfl, rfl⟩ := F
      subst h0'
      clear s1 s3 d5
      go_wp2
      refine bodyPost_ret (results_ct rfl _ _ g0 35 #[.int .i64 0, .int .i64 0, .bool false, .int .i64 0, .int .i64 0] (0, 0) _ rfl (rr_put _ _ _ _ _ _ _ _ _ _ _ _ _ HR2.out.1) Try.underlying35 rfl (by kernel_rfl)) rfl ⟨rfl, ?_⟩
      exact rr_set5 HR2.out.2.2.2.1 HR2.out.2.2.2.2.1
    by_cases h4' : x - 128 > 4
    · have hl := HLEN.out
      rw [if_neg h128, if_neg h0', if_pos h4'] at hl
      simp only [Option.some.injEq, Prod.mk.injEq] at hl
      obtain ⟨rfl, rfl, rfl⟩ := hl
      have F := F3.out
      rw [if_neg (by decide)] at F
      simp only [Option.some.injEq, Prod.mk.injEq] at F
      obtain ⟨rfl, rfl, rfl, rfl, rfl, rfl⟩ := F
      have d6 : ((x - 128 : Int) == 0) = false := beq_eq_false_iff_ne.mpr (by omega)
      have d7 : decide (4 < x - 128) = true := decide_eq_true (by omega)
      go_wp2
      refine bodyPost_ret (results_ct rfl _ _ g0 35 #[.int .i64 0, .int .i64 0, .bool false, .int .i64 0, .int .i64 0] (0, 0) _ rfl (rr_put _ _ _ _ _ _ _ _ _ _ _ _ _ HR2.out.1) Try.underlying35 rfl (by kernel_rfl)) rfl ⟨rfl, ?_⟩
      exact rr_set5 HR2.out.2.2.2.1 HR2.out.2.2.2.2.1
    have hl := HLEN.out
    rw [if_neg h128, if_neg h0', if_neg h4'] at hl
    have HL := Aside0.mk hl
    have d6 : ((x - 128 : Int) == 0) = false := beq_eq_false_iff_ne.mpr (by omega)
    have d7 : decide (4 < x - 128) = false := decide_eq_false (by omega)
    clear hl HLEN
    have hM4 : x - 128 ≤ 4 := by omega
    go_upto_region 31 with (fail)
    clear s1 s2 s3 d1 d2 d3 d4 d5 d6 d7 h128 h0' h4' g6 g7 xp2
    generalize x - 128 = M at HL hM4 ⊢
    clear z0 z1 z2 z3 z4 f0 f1 f2 f3 f4 y0 y1 y2 y3 y4 h0 h1 h2 h3 h4 q1 q3 q4 ng0 ng1
    go_wp2_with fail
    go_loopg [6, 9] k (fun kq v6 v9 w' => ∃ (p i m : Int), v6 = .int .i64 p ∧ v9 = .int .i64 i ∧ Aside0 (ref_lenL kq l M i p m = some (n, en, pn)) ∧ Aside0 (R3 w g0 g1 g2 (c / 64) t bc m 0 w'))
    case atStart => exact ⟨pt + 1, 0, 0, rfl, rfl, HL, HR2⟩
    case round =>
      obtain ⟨p, i, m, rfl, rfl, HK, HR3⟩ := hrel
      clear HL HR2
      have hk := HK.out
      clear HK
      cases gk with
      | zero => cases hk
      | succ k1 =>
      rw [ref_lenL] at hk
      have z0 := blk_cell HR3.out.1 0
      have z1 := blk_cell HR3.out.1 1
      have z2 := blk_cell HR3.out.1 2
      have z3 := blk_cell HR3.out.1 3
      have z4 := blk_cell HR3.out.1 4
      have f0 := blk_frozen HR3.out.1 0
      have f1 := blk_frozen HR3.out.1 1
      have f2 := blk_frozen HR3.out.1 2
      have f3 := blk_frozen HR3.out.1 3
      have f4 := blk_frozen HR3.out.1 4
      have y0 := blk_cell HR3.out.2.1 0
      have y1 := blk_cell HR3.out.2.1 1
      have y2 := blk_cell HR3.out.2.1 2
      have y3 := blk_cell HR3.out.2.1 3
      have y4 := blk_cell HR3.out.2.1 4
      have h0 := blk_cell HR3.out.2.2.1 0
      have h1 := blk_cell HR3.out.2.2.1 1
      have h2 := blk_cell HR3.out.2.2.1 2
      have h3 := blk_cell HR3.out.2.2.1 3
      have h4 := blk_cell HR3.out.2.2.1 4
      have q1 := blk_frozen HR3.out.2.2.1 1
      have q3 := blk_frozen HR3.out.2.2.1 3
      have q4 := blk_frozen HR3.out.2.2.1 4
      simp only [List.getElem?_toArray, List.getElem?_cons_zero, List.getElem?_cons_succ] at z0 z1 z2 z3 z4 y0 y1 y2 y3 y4 h0 h1 h2 h3 h4
      have ng0 := HR3.out.2.2.2.2.2.2.1
      have ng1 := HR3.out.2.2.2.2.2.2.2
      by_cases hi : i < M
      · rw [if_pos hi] at hk
        have e1 : decide (i < M) = true := decide_eq_true hi
        by_cases hp : p ≥ (l.length : Int)
        · rw [if_pos hp] at hk
          simp only [Option.some.injEq, Prod.mk.injEq] at hk
          obtain ⟨rfl, rfl, rfl⟩ := hk
          have F := F3.out
          rw [if_neg (by decide)] at F
          simp only [Option.some.injEq, Prod.mk.injEq] at F
          obtain ⟨rfl, rfl, rfl, rfl, rfl, rfl⟩ := F
          have e2 : decide ((l.length : Int) ≤ p) = true := decide_eq_true hp
          go_wp2
          refine bodyPost_ret (results_ct rfl _ _ g0 35 #[.int .i64 0, .int .i64 0, .bool false, .int .i64 0, .int .i64 0] (0, 0) _ rfl (rr_put _ _ _ _ _ _ _ _ _ _ _ _ _ HR3.out.1) Try.underlying35 rfl (by kernel_rfl)) rfl ⟨rfl, ?_⟩
          exact rr_set5 HR3.out.2.2.2.1 HR3.out.2.2.2.2.1
        rw [if_neg hp] at hk
        by_cases hg : ¬ (0 ≤ p ∧ p ≤ 1000000000000 ∧ 0 ≤ rd l p ∧ rd l p < 256 ∧ 0 ≤ m ∧ m ≤ 1099511627776 ∧ 0 ≤ i ∧ i ≤ 10)
        · rw [if_neg hg] at hk; cases hk
        replace hg := Decidable.of_not_not hg
        rw [if_pos hg] at hk
        obtain ⟨j1, j2, j3, j4, j5, j6, j7, j8⟩ := hg
        obtain ⟨ad2, had', xp⟩ := Kd.at_int HC.out p j1 (by omega)
        obtain rfl : ad = ad2 := by simpa using had'
        clear had'
        have xp2 := rr_cell_below HR3.out.2.2.2.1 xp
        clear xp
        obtain ⟨x, hx⟩ : ∃ x, x = rd l p := ⟨_, rfl⟩
        rw [← hx] at xp2 j3 j4 hk
        clear hx
        have e2 : decide ((l.length : Int) ≤ p) = false := decide_eq_false hp
        have e3 : p < (l.length : Int) := by omega
        have e4 : decide (p < (l.length : Int)) = true := decide_eq_true e3
        have e5 : decide (0 ≤ p) = true := decide_eq_true j1
        clear hp
        have HK := Aside0.mk hk
        clear hk
        by_cases hz : i = 0 ∧ x = 0
        · have hk := HK.out
          rw [if_pos hz] at hk
          simp only [Option.some.injEq, Prod.mk.injEq] at hk
          obtain ⟨rfl, rfl, rfl⟩ := hk
          have F := F3.out
          rw [if_neg (by decide)] at F
          simp only [Option.some.injEq, Prod.mk.injEq] at F
          obtain ⟨rfl, rfl, rfl, rfl, rfl, rfl⟩ := F
          obtain ⟨hz1, hz2⟩ := hz
          subst hz1 hz2
          go_wp2
          refine bodyPost_ret (results_ct rfl _ _ g0 35 #[.int .i64 0, .int .i64 0, .bool false, .int .i64 0, .int .i64 0] (0, 0) _ rfl (rr_put _ _ _ _ _ _ _ _ _ _ _ _ _ HR3.out.1) Try.underlying35 rfl (by kernel_rfl)) rfl ⟨rfl, ?_⟩
          exact rr_set5 HR3.out.2.2.2.1 HR3.out.2.2.2.2.1
        have hk := HK.out
        rw [if_neg hz] at hk
        have HK2 := Aside0.mk hk
        clear hk HK
        go_upto_region 36 with (fail)
        go_cut [124] (fun s124 wx => s124 = .bool false ∧ wx = wr)
        case first =>
          by_cases hi0 : i = 0
          · have b1 : ((x : Int) == 0) = false := beq_eq_false_iff_ne.mpr (fun q => hz ⟨hi0, q⟩)
            subst hi0
            clear hz
            go_wp2_with fail
            go_meet
            exact ⟨rfl, rfl⟩
          · have b1 : ((i : Int) == 0) = false := beq_eq_false_iff_ne.mpr hi0
            clear hz hi0
            go_wp2_with fail
            go_meet
            exact ⟨rfl, rfl⟩
        case rest =>
        rename World => wr2
        obtain ⟨rfl, rfl⟩ := hcut
        clear hz
        have s4 : IntKind.i64.wrap (m * 256) = m * 256 := by rw [IntKind.wrap_i64]; omega
        have s5 : IntKind.i64.wrap (m * 256 + x) = m * 256 + x := by rw [IntKind.wrap_i64]; omega
        have s6 : IntKind.i64.wrap x = x := by rw [IntKind.wrap_i64]; omega
        have s7 : IntKind.i64.wrap (p + 1) = p + 1 := by rw [IntKind.wrap_i64]; omega
        have s8 : IntKind.i64.wrap (i + 1) = i + 1 := by rw [IntKind.wrap_i64]; omega
        go_wp2_with fail
        go_region
        go_wp2_with fail
        go_roundg k1
        case measure => omega
        case rel => exact ⟨p + 1, i + 1, m * 256 + x, rfl, rfl, HK2, ⟨r3_drew (r3_len HR3.out _)⟩⟩
      · rw [if_neg hi] at hk
        have e1 : decide (i < M) = false := decide_eq_false hi
        by_cases ha : m > 2147483647
        · rw [if_pos ha] at hk
          simp only [Option.some.injEq, Prod.mk.injEq] at hk
          obtain ⟨rfl, rfl, rfl⟩ := hk
          have F := F3.out
          rw [if_neg (by decide)] at F
          simp only [Option.some.injEq, Prod.mk.injEq] at F
          obtain ⟨rfl, rfl, rfl, rfl, rfl, rfl⟩ := F
          have e2 : decide (2147483647 < m) = true := decide_eq_true ha
          go_wp2
          refine bodyPost_ret (results_ct rfl _ _ g0 35 #[.int .i64 0, .int .i64 0, .bool false, .int .i64 0, .int .i64 0] (0, 0) _ rfl (rr_put _ _ _ _ _ _ _ _ _ _ _ _ _ HR3.out.1) Try.underlying35 rfl (by kernel_rfl)) rfl ⟨rfl, ?_⟩
          exact rr_set5 HR3.out.2.2.2.1 HR3.out.2.2.2.2.1
        rw [if_neg ha] at hk
        have e2 : decide (2147483647 < m) = false := decide_eq_false ha
        by_cases hb : m < 128
        · rw [if_pos hb] at hk
          simp only [Option.some.injEq, Prod.mk.injEq] at hk
          obtain ⟨rfl, rfl, rfl⟩ := hk
          have F := F3.out
          rw [if_neg (by decide)] at F
          simp only [Option.some.injEq, Prod.mk.injEq] at F
          obtain ⟨rfl, rfl, rfl, rfl, rfl, rfl⟩ := F
          have e3 : decide (m < 128) = true := decide_eq_true hb
          go_wp2
          refine bodyPost_ret (results_ct rfl _ _ g0 35 #[.int .i64 0, .int .i64 0, .bool false, .int .i64 0, .int .i64 0] (0, 0) _ rfl (rr_put _ _ _ _ _ _ _ _ _ _ _ _ _ HR3.out.1) Try.underlying35 rfl (by kernel_rfl)) rfl ⟨rfl, ?_⟩
          exact rr_set5 HR3.out.2.2.2.1 HR3.out.2.2.2.2.1
        rw [if_neg hb] at hk
        simp only [Option.some.injEq, Prod.mk.injEq] at hk
        obtain ⟨rfl, rfl, rfl⟩ := hk
        have F := F3.out
        rw [if_pos rfl] at F
        simp only [Option.some.injEq, Prod.mk.injEq] at F
        obtain ⟨rfl, rfl, rfl, rfl, rfl, rfl⟩ := F
        have e3 : decide (m < 128) = false := decide_eq_false hb
        go_wp2
        refine bodyPost_ret (results_ct rfl _ _ g0 35 #[.int .i64 (c / 64), .int .i64 t, .bool bc, .int .i64 m, .int .i64 p] (0, 0) _ rfl (rr_put _ _ _ _ _ _ _ _ _ _ _ _ _ (r3_size HR3.out p).1) Try.underlying35 rfl (by kernel_rfl)) rfl ⟨rfl, ?_⟩
        exact rr_set5 (r3_size HR3.out p).2.2.2.1 (r3_size HR3.out p).2.2.2.2.1


theorem ref_tag_mono : ∀ k y0 y1 y2, LeO (ref_tag k y0 y1 y2) (ref_tag (k + 1) y0 y1 y2) := by
  intro k
  induction k with
  | zero => intros; exact LeO.none _
  | succ k ih =>
    intro y0 y1 y2
    rw [ref_tag, ref_tag]
    exact LeO.ite (LeO.refl _) (LeO.ite (LeO.ite (LeO.refl _) (LeO.ite (LeO.refl _) (LeO.ite (ih _ _ _) (LeO.refl _)))) (LeO.refl _))
theorem ref_lenL_mono : ∀ k y0 y1 y2 y3 y4, LeO (ref_lenL k y0 y1 y2 y3 y4) (ref_lenL (k + 1) y0 y1 y2 y3 y4) := by
  intro k
  induction k with
  | zero => intros; exact LeO.none _
  | succ k ih =>
    intro y0 y1 y2 y3 y4
    rw [ref_lenL, ref_lenL]
    exact LeO.ite (LeO.ite (LeO.refl _) (LeO.ite (LeO.ite (LeO.refl _) (ih _ _ _ _ _)) (LeO.refl _))) (LeO.refl _)
theorem ref_len_mono (k : Nat) (l : List Int) (p : Int) : LeO (ref_len k l p) (ref_len (k + 1) l p) := by
  unfold ref_len
  exact LeO.ite (LeO.refl _) (LeO.ite (LeO.ite (LeO.refl _) (LeO.ite (LeO.refl _) (LeO.ite (LeO.refl _) (ref_lenL_mono _ _ _ _ _ _)))) (LeO.refl _))
theorem sobriquetref01_Read.mono : ∀ a0 k, LeO (sobriquetref01_Read.f k a0) (sobriquetref01_Read.f (k + 1) a0) := by
  intro a0 k
  unfold sobriquetref01_Read.f
  exact LeO.ite (LeO.refl _) (LeO.ite (LeO.bind (LeO.ite (ref_tag_mono _ _ _ _) (LeO.refl _)) (fun t => LeO.ite (LeO.bind (ref_len_mono _ _ _) (fun n => LeO.refl _)) (LeO.refl _))) (LeO.refl _))
theorem sobriquetref01_Read.calls (k : Nat) (A0 : Option Addr) (c0 : Nat) (l0 : List Int) (r1 r2 : Int) (r3 : Bool) (r4 r5 r6 : Int) (w : World) (hr0 : Kd.C (Kd.int .u8) w A0 l0.length l0) (hc0 : l0.length ≤ c0) (h : sobriquetref01_Read.f k l0 = some (r1, r2, r3, r4, r5, r6)) :
    Calls Try.prog 17 #[.slice A0 l0.length c0] w fun e w' => e = .returned (.tuple #[.agg #[.int .i64 r1, .int .i64 r2, .bool r3, .int .i64 r4, .int .i64 r5], .int .i64 r6]) ∧ Below w.heap.size w w' :=
  sobriquetref01_Read.walked k A0 c0 l0 r1 r2 r3 r4 r5 r6 w hr0 hc0 h


end Go.Proofs.Ytogbpdmncnldhaa.MWellDeep
