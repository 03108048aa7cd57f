-- Written by a program of this session over the translation; checked by Lean alone.
import Derived.Test.YtdnclldebkpkfaaDoorMOidExactx0
import Derived.Test.YtdnclldebkpkfaaDoorMOidExactx1
import Derived.Test.YtdnclldebkpkfaaDoorMOidExactx2
import Derived.Test.YtdnclldebkpkfaaDoorMOidExactx3
import Derived.Test.YtdnclldebkpkfaaDoorMOidExactx4
import Derived.Test.YtdnclldebkpkfaaDoorMOidExactx5
import Derived.Test.YtdnclldebkpkfaaDoorMOidExactx6
namespace Go.Proofs.YtdnclldebkpkfaaDoor.MOidExact
open Go.RowKit Go.Proofs.YtdnclldebkpkfaaDoorW.PrintWords Go.Proofs.YtdnclldebkpkfaaDoorW.PrintLast Go.Proofs.YtdnclldebkpkfaaDoorW.PrintMore
attribute [local go_sem] max2_int min2_int max_two min_two max_three min_three max_four min_four   -- for this text's walks alone
set_option linter.unusedVariables false
set_option linter.unusedSimpArgs false
set_option linter.unnecessarySimpa false

/-! ### sobriquetlaw03_OidExact: function 5 -/
mutual
def sobriquetlaw03_OidExact.j0 : Nat → List Int → List Int → ByteArray → Bool → Option (Bool)
  | 0, _, _, _, _ => none
  | k + 1, x0, x1, x2, x32 => if x32 = true then (some true) else ((sobriquetkeep_TwinInts.f x0).bind fun t289 => ((oid_Content.f k t289).bind fun bt292 => ((oid_Text.f k t289).bind fun bt296 => ((oid_Read.f k x1).bind fun bt298 => ((oid_Parse.f x2).bind fun bt302 => ((sobriquetref01_ReadOid.f k x1).bind fun bt306 => ((sobriquetref01_ParseOid.f k x2).bind fun bt310 => (if ((bt298.2 == 0) != bt306.2) = true then (sobriquetlaw03_OidExact.j1 k x0 t289 bt292.1 bt292.2 bt296.1 bt296.2 true) else (if bt306.2 = true then ((sobriquetkeep_Ints.f k bt298.1 bt306.1).bind fun t314 => (if t314 = true then (if ((bt302.2 == 0) != bt310.2) = true then (sobriquetlaw03_OidExact.j1 k x0 t289 bt292.1 bt292.2 bt296.1 bt296.2 true) else (if bt310.2 = true then ((sobriquetkeep_Ints.f k bt302.1 bt310.1).bind fun t315 => (if t315 = true then ((sobriquetkeep_Ints.f k t289 x0).bind fun t316 => (sobriquetlaw03_OidExact.j1 k x0 t289 bt292.1 bt292.2 bt296.1 bt296.2 (!t316))) else (sobriquetlaw03_OidExact.j1 k x0 t289 bt292.1 bt292.2 bt296.1 bt296.2 true))) else (if bt302.2 = 8 then ((sobriquetkeep_Ints.f k bt302.1 bt310.1).bind fun t317 => (if t317 = true then ((sobriquetkeep_Ints.f k t289 x0).bind fun t318 => (sobriquetlaw03_OidExact.j1 k x0 t289 bt292.1 bt292.2 bt296.1 bt296.2 (!t318))) else (sobriquetlaw03_OidExact.j1 k x0 t289 bt292.1 bt292.2 bt296.1 bt296.2 true))) else (sobriquetlaw03_OidExact.j1 k x0 t289 bt292.1 bt292.2 bt296.1 bt296.2 true)))) else (sobriquetlaw03_OidExact.j1 k x0 t289 bt292.1 bt292.2 bt296.1 bt296.2 true))) else (if bt298.2 = 8 then ((sobriquetkeep_Ints.f k bt298.1 bt306.1).bind fun t319 => (if t319 = true then (if ((bt302.2 == 0) != bt310.2) = true then (sobriquetlaw03_OidExact.j1 k x0 t289 bt292.1 bt292.2 bt296.1 bt296.2 true) else (if bt310.2 = true then ((sobriquetkeep_Ints.f k bt302.1 bt310.1).bind fun t320 => (if t320 = true then ((sobriquetkeep_Ints.f k t289 x0).bind fun t321 => (sobriquetlaw03_OidExact.j1 k x0 t289 bt292.1 bt292.2 bt296.1 bt296.2 (!t321))) else (sobriquetlaw03_OidExact.j1 k x0 t289 bt292.1 bt292.2 bt296.1 bt296.2 true))) else (if bt302.2 = 8 then ((sobriquetkeep_Ints.f k bt302.1 bt310.1).bind fun t322 => (if t322 = true then ((sobriquetkeep_Ints.f k t289 x0).bind fun t323 => (sobriquetlaw03_OidExact.j1 k x0 t289 bt292.1 bt292.2 bt296.1 bt296.2 (!t323))) else (sobriquetlaw03_OidExact.j1 k x0 t289 bt292.1 bt292.2 bt296.1 bt296.2 true))) else (sobriquetlaw03_OidExact.j1 k x0 t289 bt292.1 bt292.2 bt296.1 bt296.2 true)))) else (sobriquetlaw03_OidExact.j1 k x0 t289 bt292.1 bt292.2 bt296.1 bt296.2 true))) else (sobriquetlaw03_OidExact.j1 k x0 t289 bt292.1 bt292.2 bt296.1 bt296.2 true)))))))))))
def sobriquetlaw03_OidExact.j1 : Nat → List Int → List Int → List Int → Int → ByteArray → Int → Bool → Option (Bool)
  | 0, _, _, _, _, _, _, _ => none
  | k + 1, x0, x7, x8, x9, x10, x11, x108 => if x108 = true then (some false) else ((sobriquetref01_Oid.f k x0).bind fun t324 => (if t324 = true then ((oid_Check.f x7).bind fun t327 => (if t327 = 0 then (if x9 = 0 then (if x11 = 0 then ((sobriquetref01_Content.f k x0).bind fun t328 => ((sobriquetkeep_Bytes.f k x8 t328).bind fun t331 => (if t331 = true then ((sobriquetref01_OidText.f k x0).bind fun t332 => (if x10.toList = t332.toList then ((sobriquetlaw03_wakes.f k).bind fun t333 => (some t333)) else (some false))) else (some false)))) else (some false)) else (some false)) else (some false))) else ((oid_Check.f x7).bind fun t325 => (if t325 = 8 then (if x9 = 8 then (if x11 = 8 then (if (wrap64 ((x8.length : Int) + (x10.size : Int))) = 0 then ((sobriquetlaw03_wakes.f k).bind fun t326 => (some t326)) else (some false)) else (some false)) else (some false)) else (some false)))))
end
def sobriquetlaw03_OidExact.f (k : Nat) (l0 : List Int) (l1 : List Int) (a2 : ByteArray) : Option (Bool) := if (l0.length : Int) > 100 then (sobriquetlaw03_OidExact.j0 k l0 l1 a2 true) else (if (l1.length : Int) > 500 then (sobriquetlaw03_OidExact.j0 k l0 l1 a2 true) else (sobriquetlaw03_OidExact.j0 k l0 l1 a2 (decide ((a2.size : Int) > 900))))
theorem sobriquetlaw03_OidExact.mono_l : ∀ k, (∀ y0 y1 y2 y3, LeO (sobriquetlaw03_OidExact.j0 k y0 y1 y2 y3) (sobriquetlaw03_OidExact.j0 (k + 1) y0 y1 y2 y3)) ∧ (∀ y0 y1 y2 y3 y4 y5 y6, LeO (sobriquetlaw03_OidExact.j1 k y0 y1 y2 y3 y4 y5 y6) (sobriquetlaw03_OidExact.j1 (k + 1) y0 y1 y2 y3 y4 y5 y6))
  | 0 => ⟨fun _ _ _ _ r h => by simp [sobriquetlaw03_OidExact.j0] at h, fun _ _ _ _ _ _ _ r h => by simp [sobriquetlaw03_OidExact.j1] at h⟩
  | k + 1 => by
    obtain ⟨ih0, ih1⟩ := sobriquetlaw03_OidExact.mono_l k
    refine ⟨?_, ?_⟩
    · intro y0 y1 y2 y3
      unfold sobriquetlaw03_OidExact.j0
      repeat' first
      | (with_reducible exact ih0 _ _ _ _)
      | (with_reducible exact ih1 _ _ _ _ _ _ _)
      | (with_reducible exact oid_Content.mono _ _)
      | (with_reducible exact oid_Read.mono _ _)
      | (with_reducible exact oid_Text.mono _ _)
      | (with_reducible exact sobriquetkeep_Bytes.mono _ _ _)
      | (with_reducible exact sobriquetkeep_Ints.mono _ _ _)
      | (with_reducible exact sobriquetlaw03_wakes.mono _)
      | (with_reducible exact sobriquetref01_Content.mono _ _)
      | (with_reducible exact sobriquetref01_Oid.mono _ _)
      | (with_reducible exact sobriquetref01_OidText.mono _ _)
      | (with_reducible exact sobriquetref01_ParseOid.mono _ _)
      | (with_reducible exact sobriquetref01_ReadOid.mono _ _)
      | (with_reducible exact LeO.refl _)
      | (with_reducible exact LeO.none _)
      | (with_reducible refine LeO.ite ?_ ?_)
      | (with_reducible refine LeO.bind ?_ (fun _ => ?_))
      | exact ih0 _ _ _ _
      | exact ih1 _ _ _ _ _ _ _
      | exact oid_Content.mono _ _
      | exact oid_Read.mono _ _
      | exact oid_Text.mono _ _
      | exact sobriquetkeep_Bytes.mono _ _ _
      | exact sobriquetkeep_Ints.mono _ _ _
      | exact sobriquetlaw03_wakes.mono _
      | exact sobriquetref01_Content.mono _ _
      | exact sobriquetref01_Oid.mono _ _
      | exact sobriquetref01_OidText.mono _ _
      | exact sobriquetref01_ParseOid.mono _ _
      | exact sobriquetref01_ReadOid.mono _ _
      | exact LeO.none _
      | refine LeO.ite ?_ ?_
      | refine LeO.bind ?_ (fun _ => ?_)
    · intro y0 y1 y2 y3 y4 y5 y6
      unfold sobriquetlaw03_OidExact.j1
      repeat' first
      | (with_reducible exact ih0 _ _ _ _)
      | (with_reducible exact ih1 _ _ _ _ _ _ _)
      | (with_reducible exact oid_Content.mono _ _)
      | (with_reducible exact oid_Read.mono _ _)
      | (with_reducible exact oid_Text.mono _ _)
      | (with_reducible exact sobriquetkeep_Bytes.mono _ _ _)
      | (with_reducible exact sobriquetkeep_Ints.mono _ _ _)
      | (with_reducible exact sobriquetlaw03_wakes.mono _)
      | (with_reducible exact sobriquetref01_Content.mono _ _)
      | (with_reducible exact sobriquetref01_Oid.mono _ _)
      | (with_reducible exact sobriquetref01_OidText.mono _ _)
      | (with_reducible exact sobriquetref01_ParseOid.mono _ _)
      | (with_reducible exact sobriquetref01_ReadOid.mono _ _)
      | (with_reducible exact LeO.refl _)
      | (with_reducible exact LeO.none _)
      | (with_reducible refine LeO.ite ?_ ?_)
      | (with_reducible refine LeO.bind ?_ (fun _ => ?_))
      | exact ih0 _ _ _ _
      | exact ih1 _ _ _ _ _ _ _
      | exact oid_Content.mono _ _
      | exact oid_Read.mono _ _
      | exact oid_Text.mono _ _
      | exact sobriquetkeep_Bytes.mono _ _ _
      | exact sobriquetkeep_Ints.mono _ _ _
      | exact sobriquetlaw03_wakes.mono _
      | exact sobriquetref01_Content.mono _ _
      | exact sobriquetref01_Oid.mono _ _
      | exact sobriquetref01_OidText.mono _ _
      | exact sobriquetref01_ParseOid.mono _ _
      | exact sobriquetref01_ReadOid.mono _ _
      | exact LeO.none _
      | refine LeO.ite ?_ ?_
      | refine LeO.bind ?_ (fun _ => ?_)
theorem sobriquetlaw03_OidExact.mono : ∀ a0 a1 a2 k, LeO (sobriquetlaw03_OidExact.f k a0 a1 a2) (sobriquetlaw03_OidExact.f (k + 1) a0 a1 a2) := by
  intro a0 a1 a2 k
  obtain ⟨ih0, ih1⟩ := sobriquetlaw03_OidExact.mono_l k
  unfold sobriquetlaw03_OidExact.f
  repeat' first
      | (with_reducible exact ih0 _ _ _ _)
      | (with_reducible exact ih1 _ _ _ _ _ _ _)
      | (with_reducible exact oid_Content.mono _ _)
      | (with_reducible exact oid_Read.mono _ _)
      | (with_reducible exact oid_Text.mono _ _)
      | (with_reducible exact sobriquetkeep_Bytes.mono _ _ _)
      | (with_reducible exact sobriquetkeep_Ints.mono _ _ _)
      | (with_reducible exact sobriquetlaw03_wakes.mono _)
      | (with_reducible exact sobriquetref01_Content.mono _ _)
      | (with_reducible exact sobriquetref01_Oid.mono _ _)
      | (with_reducible exact sobriquetref01_OidText.mono _ _)
      | (with_reducible exact sobriquetref01_ParseOid.mono _ _)
      | (with_reducible exact sobriquetref01_ReadOid.mono _ _)
      | (with_reducible exact LeO.refl _)
      | (with_reducible exact LeO.none _)
      | (with_reducible refine LeO.ite ?_ ?_)
      | (with_reducible refine LeO.bind ?_ (fun _ => ?_))
      | exact ih0 _ _ _ _
      | exact ih1 _ _ _ _ _ _ _
      | exact oid_Content.mono _ _
      | exact oid_Read.mono _ _
      | exact oid_Text.mono _ _
      | exact sobriquetkeep_Bytes.mono _ _ _
      | exact sobriquetkeep_Ints.mono _ _ _
      | exact sobriquetlaw03_wakes.mono _
      | exact sobriquetref01_Content.mono _ _
      | exact sobriquetref01_Oid.mono _ _
      | exact sobriquetref01_OidText.mono _ _
      | exact sobriquetref01_ParseOid.mono _ _
      | exact sobriquetref01_ReadOid.mono _ _
      | exact LeO.none _
      | refine LeO.ite ?_ ?_
      | refine LeO.bind ?_ (fun _ => ?_)
set_option maxHeartbeats 8000000 in
set_option maxRecDepth 100000 in
theorem sobriquetlaw03_OidExact.calls (k : Nat) (A0 : Option Addr) (c0 : Nat) (l0 : List Int) (A1 : Option Addr) (c1 : Nat) (l1 : List Int) (a2 : ByteArray) (r : Bool) (w : World) (hr0 : Kd.C (Kd.int .i64) w A0 l0.length l0) (hc0 : l0.length ≤ c0) (hr1 : Kd.C (Kd.int .u8) w A1 l1.length l1) (hc1 : l1.length ≤ c1) (h : sobriquetlaw03_OidExact.f k l0 l1 a2 = some r) (hrt0 : r = true) (hG0 : Go.Proofs.YtdnclldebkpkfaaDoor.Oid.Glob w) :
    Calls Tryd.prog 5 #[.slice A0 l0.length c0, .slice A1 l1.length c1, .string a2] w fun e w' => e = .returned (.bool r) ∧ Below w.heap.size w w' := by
  have HG := Aside0.mk hG0
  clear hG0
  have HR0 := Aside0.mk hr0
  have HC0 := Aside0.mk hc0
  clear hr0 hc0
  have HR1 := Aside0.mk hr1
  have HC1 := Aside0.mk hc1
  clear hr1 hc1
  have HB := Aside0.mk (Below.refl w.heap.size w)
  have hrt := Aside0.mk hrt0
  clear hrt0
  have H : (if (l0.length : Int) > 100 then (sobriquetlaw03_OidExact.j0 k l0 l1 a2 true) else (if (l1.length : Int) > 500 then (sobriquetlaw03_OidExact.j0 k l0 l1 a2 true) else (sobriquetlaw03_OidExact.j0 k l0 l1 a2 (decide ((a2.size : Int) > 900))))) = some r := h
  clear h
  have HC4 := Aside0.mk H
  clear H
  go_enter Tryd.func5, Tryd.ntmps5
  go_upto_region 1 with (fail)
  go_cut [32] (fun v32 wc => ∃ (kq : Nat) (x32_3 : Bool), v32 = .bool x32_3 ∧ Aside0 (sobriquetlaw03_OidExact.j0 kq l0 l1 a2 x32_3 = some r) ∧ Aside0 (kq ≤ k) ∧ Aside0 (Below w.heap.size w wc))
  case first =>
    have H := HC4.out
    clear HC4
    by_cases c5 : (l0.length : Int) > 100
    · rw [if_pos c5] at H
      have c5b0 : decide (100 < (l0.length : Int)) = true := decide_eq_true c5
      have c5b1 : decide (100 < l0.length) = true := decide_eq_true (by omega)
      clear c5
      (first | rw [c5b0] | (simp only [i64_w, i32_w]; rw [c5b0]) | skip)
      have H' := Aside0.mk H
      clear H
      go_wp2
      go_meet
      case rel => exact ⟨_, (true), (by first | rfl | (simp; done) | (simp [*]; done)), H', ⟨by first | omega | exact Nat.le_refl _⟩, ⟨by repeat (first | (with_reducible first | exact HB.out | apply below_alloc | apply pw_below_drewN | apply below_drew1) | exact HB.out)⟩⟩
    · rw [if_neg c5] at H
      have c5b0 : decide (100 < (l0.length : Int)) = false := decide_eq_false c5
      have c5b1 : decide (100 < l0.length) = false := decide_eq_false (by omega)
      clear c5
      (first | rw [c5b0] | (simp only [i64_w, i32_w]; rw [c5b0]) | skip)
      by_cases c6 : (l1.length : Int) > 500
      · rw [if_pos c6] at H
        have c6b0 : decide (500 < (l1.length : Int)) = true := decide_eq_true c6
        have c6b1 : decide (500 < l1.length) = true := decide_eq_true (by omega)
        clear c6
        have H' := Aside0.mk H
        clear H
        go_wp2
        go_meet
        case rel => exact ⟨_, (true), (by first | rfl | (simp; done) | (simp [*]; done)), H', ⟨by first | omega | exact Nat.le_refl _⟩, ⟨by repeat (first | (with_reducible first | exact HB.out | apply below_alloc | apply pw_below_drewN | apply below_drew1) | exact HB.out)⟩⟩
      · rw [if_neg c6] at H
        have c6b0 : decide (500 < (l1.length : Int)) = false := decide_eq_false c6
        have c6b1 : decide (500 < l1.length) = false := decide_eq_false (by omega)
        clear c6
        have H' := Aside0.mk H
        clear H
        go_wp2
        go_meet
        case rel => exact ⟨_, (decide ((a2.size : Int) > 900)), (by first | rfl | (simp; done) | (simp [*]; done)), H', ⟨by first | omega | exact Nat.le_refl _⟩, ⟨by repeat (first | (with_reducible first | exact HB.out | apply below_alloc | apply pw_below_drewN | apply below_drew1) | exact HB.out)⟩⟩
  case rest =>
    clear HC4
    try clear c1
    try clear p2
    try clear c5
    try clear c5b0
    try clear c5b1
    try clear c6
    try clear c6b0
    try clear c6b1
    obtain ⟨kq, x32_3, rfl, HA, HJ3, HB⟩ := hcut
    cases kq with
    | zero => exact absurd HA.out (by simp [sobriquetlaw03_OidExact.j0])
    | succ kj3 =>
      have H := HA.out
      clear HA
      simp only [sobriquetlaw03_OidExact.j0] at H
      by_cases c7 : x32_3 = true
      · subst c7
        have H1 : (some true) = some r := by rw [if_pos rfl] at H; exact H
        clear H
        have H := H1
        clear H1
        obtain rfl := Option.some.inj H
        go_wp2
        go_ret
        exact ⟨by first | rfl | (simp [errW_none, errW_some] <;> rfl) | (simp [*, errW_none, errW_some] <;> rfl), by repeat (first | (with_reducible first | exact HB.out | apply below_alloc | apply pw_below_drewN | apply below_drew1) | exact HB.out)⟩
      · replace c7 := Bool.eq_false_iff.mpr c7
        subst c7
        have H1 : ((sobriquetkeep_TwinInts.f l0).bind fun t289 => ((oid_Content.f kj3 t289).bind fun bt292 => ((oid_Text.f kj3 t289).bind fun bt296 => ((oid_Read.f kj3 l1).bind fun bt298 => ((oid_Parse.f a2).bind fun bt302 => ((sobriquetref01_ReadOid.f kj3 l1).bind fun bt306 => ((sobriquetref01_ParseOid.f kj3 a2).bind fun bt310 => (if ((bt298.2 == 0) != bt306.2) = true then (sobriquetlaw03_OidExact.j1 kj3 l0 t289 bt292.1 bt292.2 bt296.1 bt296.2 true) else (if bt306.2 = true then ((sobriquetkeep_Ints.f kj3 bt298.1 bt306.1).bind fun t314 => (if t314 = true then (if ((bt302.2 == 0) != bt310.2) = true then (sobriquetlaw03_OidExact.j1 kj3 l0 t289 bt292.1 bt292.2 bt296.1 bt296.2 true) else (if bt310.2 = true then ((sobriquetkeep_Ints.f kj3 bt302.1 bt310.1).bind fun t315 => (if t315 = true then ((sobriquetkeep_Ints.f kj3 t289 l0).bind fun t316 => (sobriquetlaw03_OidExact.j1 kj3 l0 t289 bt292.1 bt292.2 bt296.1 bt296.2 (!t316))) else (sobriquetlaw03_OidExact.j1 kj3 l0 t289 bt292.1 bt292.2 bt296.1 bt296.2 true))) else (if bt302.2 = 8 then ((sobriquetkeep_Ints.f kj3 bt302.1 bt310.1).bind fun t317 => (if t317 = true then ((sobriquetkeep_Ints.f kj3 t289 l0).bind fun t318 => (sobriquetlaw03_OidExact.j1 kj3 l0 t289 bt292.1 bt292.2 bt296.1 bt296.2 (!t318))) else (sobriquetlaw03_OidExact.j1 kj3 l0 t289 bt292.1 bt292.2 bt296.1 bt296.2 true))) else (sobriquetlaw03_OidExact.j1 kj3 l0 t289 bt292.1 bt292.2 bt296.1 bt296.2 true)))) else (sobriquetlaw03_OidExact.j1 kj3 l0 t289 bt292.1 bt292.2 bt296.1 bt296.2 true))) else (if bt298.2 = 8 then ((sobriquetkeep_Ints.f kj3 bt298.1 bt306.1).bind fun t319 => (if t319 = true then (if ((bt302.2 == 0) != bt310.2) = true then (sobriquetlaw03_OidExact.j1 kj3 l0 t289 bt292.1 bt292.2 bt296.1 bt296.2 true) else (if bt310.2 = true then ((sobriquetkeep_Ints.f kj3 bt302.1 bt310.1).bind fun t320 => (if t320 = true then ((sobriquetkeep_Ints.f kj3 t289 l0).bind fun t321 => (sobriquetlaw03_OidExact.j1 kj3 l0 t289 bt292.1 bt292.2 bt296.1 bt296.2 (!t321))) else (sobriquetlaw03_OidExact.j1 kj3 l0 t289 bt292.1 bt292.2 bt296.1 bt296.2 true))) else (if bt302.2 = 8 then ((sobriquetkeep_Ints.f kj3 bt302.1 bt310.1).bind fun t322 => (if t322 = true then ((sobriquetkeep_Ints.f kj3 t289 l0).bind fun t323 => (sobriquetlaw03_OidExact.j1 kj3 l0 t289 bt292.1 bt292.2 bt296.1 bt296.2 (!t323))) else (sobriquetlaw03_OidExact.j1 kj3 l0 t289 bt292.1 bt292.2 bt296.1 bt296.2 true))) else (sobriquetlaw03_OidExact.j1 kj3 l0 t289 bt292.1 bt292.2 bt296.1 bt296.2 true)))) else (sobriquetlaw03_OidExact.j1 kj3 l0 t289 bt292.1 bt292.2 bt296.1 bt296.2 true))) else (sobriquetlaw03_OidExact.j1 kj3 l0 t289 bt292.1 bt292.2 bt296.1 bt296.2 true))))))))))) = some r := by rw [if_neg (show ¬ (false = true) by decide)] at H; exact H
        clear H
        have H := H1
        clear H1
        replace H := Option.bind_eq_some_iff.mp H
        obtain ⟨t289, A80, H⟩ := H
        replace H : ((oid_Content.f kj3 t289).bind fun bt292 => ((oid_Text.f kj3 t289).bind fun bt296 => ((oid_Read.f kj3 l1).bind fun bt298 => ((oid_Parse.f a2).bind fun bt302 => ((sobriquetref01_ReadOid.f kj3 l1).bind fun bt306 => ((sobriquetref01_ParseOid.f kj3 a2).bind fun bt310 => (if ((bt298.2 == 0) != bt306.2) = true then (sobriquetlaw03_OidExact.j1 kj3 l0 t289 bt292.1 bt292.2 bt296.1 bt296.2 true) else (if bt306.2 = true then ((sobriquetkeep_Ints.f kj3 bt298.1 bt306.1).bind fun t314 => (if t314 = true then (if ((bt302.2 == 0) != bt310.2) = true then (sobriquetlaw03_OidExact.j1 kj3 l0 t289 bt292.1 bt292.2 bt296.1 bt296.2 true) else (if bt310.2 = true then ((sobriquetkeep_Ints.f kj3 bt302.1 bt310.1).bind fun t315 => (if t315 = true then ((sobriquetkeep_Ints.f kj3 t289 l0).bind fun t316 => (sobriquetlaw03_OidExact.j1 kj3 l0 t289 bt292.1 bt292.2 bt296.1 bt296.2 (!t316))) else (sobriquetlaw03_OidExact.j1 kj3 l0 t289 bt292.1 bt292.2 bt296.1 bt296.2 true))) else (if bt302.2 = 8 then ((sobriquetkeep_Ints.f kj3 bt302.1 bt310.1).bind fun t317 => (if t317 = true then ((sobriquetkeep_Ints.f kj3 t289 l0).bind fun t318 => (sobriquetlaw03_OidExact.j1 kj3 l0 t289 bt292.1 bt292.2 bt296.1 bt296.2 (!t318))) else (sobriquetlaw03_OidExact.j1 kj3 l0 t289 bt292.1 bt292.2 bt296.1 bt296.2 true))) else (sobriquetlaw03_OidExact.j1 kj3 l0 t289 bt292.1 bt292.2 bt296.1 bt296.2 true)))) else (sobriquetlaw03_OidExact.j1 kj3 l0 t289 bt292.1 bt292.2 bt296.1 bt296.2 true))) else (if bt298.2 = 8 then ((sobriquetkeep_Ints.f kj3 bt298.1 bt306.1).bind fun t319 => (if t319 = true then (if ((bt302.2 == 0) != bt310.2) = true then (sobriquetlaw03_OidExact.j1 kj3 l0 t289 bt292.1 bt292.2 bt296.1 bt296.2 true) else (if bt310.2 = true then ((sobriquetkeep_Ints.f kj3 bt302.1 bt310.1).bind fun t320 => (if t320 = true then ((sobriquetkeep_Ints.f kj3 t289 l0).bind fun t321 => (sobriquetlaw03_OidExact.j1 kj3 l0 t289 bt292.1 bt292.2 bt296.1 bt296.2 (!t321))) else (sobriquetlaw03_OidExact.j1 kj3 l0 t289 bt292.1 bt292.2 bt296.1 bt296.2 true))) else (if bt302.2 = 8 then ((sobriquetkeep_Ints.f kj3 bt302.1 bt310.1).bind fun t322 => (if t322 = true then ((sobriquetkeep_Ints.f kj3 t289 l0).bind fun t323 => (sobriquetlaw03_OidExact.j1 kj3 l0 t289 bt292.1 bt292.2 bt296.1 bt296.2 (!t323))) else (sobriquetlaw03_OidExact.j1 kj3 l0 t289 bt292.1 bt292.2 bt296.1 bt296.2 true))) else (sobriquetlaw03_OidExact.j1 kj3 l0 t289 bt292.1 bt292.2 bt296.1 bt296.2 true)))) else (sobriquetlaw03_OidExact.j1 kj3 l0 t289 bt292.1 bt292.2 bt296.1 bt296.2 true))) else (sobriquetlaw03_OidExact.j1 kj3 l0 t289 bt292.1 bt292.2 bt296.1 bt296.2 true)))))))))) = some r := H
        have A8 := Aside0.mk A80
        clear A80
        replace H := Option.bind_eq_some_iff.mp H
        obtain ⟨⟨t292, t293⟩, A90, H⟩ := H
        replace H : ((oid_Text.f kj3 t289).bind fun bt296 => ((oid_Read.f kj3 l1).bind fun bt298 => ((oid_Parse.f a2).bind fun bt302 => ((sobriquetref01_ReadOid.f kj3 l1).bind fun bt306 => ((sobriquetref01_ParseOid.f kj3 a2).bind fun bt310 => (if ((bt298.2 == 0) != bt306.2) = true then (sobriquetlaw03_OidExact.j1 kj3 l0 t289 t292 t293 bt296.1 bt296.2 true) else (if bt306.2 = true then ((sobriquetkeep_Ints.f kj3 bt298.1 bt306.1).bind fun t314 => (if t314 = true then (if ((bt302.2 == 0) != bt310.2) = true then (sobriquetlaw03_OidExact.j1 kj3 l0 t289 t292 t293 bt296.1 bt296.2 true) else (if bt310.2 = true then ((sobriquetkeep_Ints.f kj3 bt302.1 bt310.1).bind fun t315 => (if t315 = true then ((sobriquetkeep_Ints.f kj3 t289 l0).bind fun t316 => (sobriquetlaw03_OidExact.j1 kj3 l0 t289 t292 t293 bt296.1 bt296.2 (!t316))) else (sobriquetlaw03_OidExact.j1 kj3 l0 t289 t292 t293 bt296.1 bt296.2 true))) else (if bt302.2 = 8 then ((sobriquetkeep_Ints.f kj3 bt302.1 bt310.1).bind fun t317 => (if t317 = true then ((sobriquetkeep_Ints.f kj3 t289 l0).bind fun t318 => (sobriquetlaw03_OidExact.j1 kj3 l0 t289 t292 t293 bt296.1 bt296.2 (!t318))) else (sobriquetlaw03_OidExact.j1 kj3 l0 t289 t292 t293 bt296.1 bt296.2 true))) else (sobriquetlaw03_OidExact.j1 kj3 l0 t289 t292 t293 bt296.1 bt296.2 true)))) else (sobriquetlaw03_OidExact.j1 kj3 l0 t289 t292 t293 bt296.1 bt296.2 true))) else (if bt298.2 = 8 then ((sobriquetkeep_Ints.f kj3 bt298.1 bt306.1).bind fun t319 => (if t319 = true then (if ((bt302.2 == 0) != bt310.2) = true then (sobriquetlaw03_OidExact.j1 kj3 l0 t289 t292 t293 bt296.1 bt296.2 true) else (if bt310.2 = true then ((sobriquetkeep_Ints.f kj3 bt302.1 bt310.1).bind fun t320 => (if t320 = true then ((sobriquetkeep_Ints.f kj3 t289 l0).bind fun t321 => (sobriquetlaw03_OidExact.j1 kj3 l0 t289 t292 t293 bt296.1 bt296.2 (!t321))) else (sobriquetlaw03_OidExact.j1 kj3 l0 t289 t292 t293 bt296.1 bt296.2 true))) else (if bt302.2 = 8 then ((sobriquetkeep_Ints.f kj3 bt302.1 bt310.1).bind fun t322 => (if t322 = true then ((sobriquetkeep_Ints.f kj3 t289 l0).bind fun t323 => (sobriquetlaw03_OidExact.j1 kj3 l0 t289 t292 t293 bt296.1 bt296.2 (!t323))) else (sobriquetlaw03_OidExact.j1 kj3 l0 t289 t292 t293 bt296.1 bt296.2 true))) else (sobriquetlaw03_OidExact.j1 kj3 l0 t289 t292 t293 bt296.1 bt296.2 true)))) else (sobriquetlaw03_OidExact.j1 kj3 l0 t289 t292 t293 bt296.1 bt296.2 true))) else (sobriquetlaw03_OidExact.j1 kj3 l0 t289 t292 t293 bt296.1 bt296.2 true))))))))) = some r := H
        have A9 := Aside0.mk A90
        clear A90
        replace H := Option.bind_eq_some_iff.mp H
        obtain ⟨⟨t296, t297⟩, A100, H⟩ := H
        replace H : ((oid_Read.f kj3 l1).bind fun bt298 => ((oid_Parse.f a2).bind fun bt302 => ((sobriquetref01_ReadOid.f kj3 l1).bind fun bt306 => ((sobriquetref01_ParseOid.f kj3 a2).bind fun bt310 => (if ((bt298.2 == 0) != bt306.2) = true then (sobriquetlaw03_OidExact.j1 kj3 l0 t289 t292 t293 t296 t297 true) else (if bt306.2 = true then ((sobriquetkeep_Ints.f kj3 bt298.1 bt306.1).bind fun t314 => (if t314 = true then (if ((bt302.2 == 0) != bt310.2) = true then (sobriquetlaw03_OidExact.j1 kj3 l0 t289 t292 t293 t296 t297 true) else (if bt310.2 = true then ((sobriquetkeep_Ints.f kj3 bt302.1 bt310.1).bind fun t315 => (if t315 = true then ((sobriquetkeep_Ints.f kj3 t289 l0).bind fun t316 => (sobriquetlaw03_OidExact.j1 kj3 l0 t289 t292 t293 t296 t297 (!t316))) else (sobriquetlaw03_OidExact.j1 kj3 l0 t289 t292 t293 t296 t297 true))) else (if bt302.2 = 8 then ((sobriquetkeep_Ints.f kj3 bt302.1 bt310.1).bind fun t317 => (if t317 = true then ((sobriquetkeep_Ints.f kj3 t289 l0).bind fun t318 => (sobriquetlaw03_OidExact.j1 kj3 l0 t289 t292 t293 t296 t297 (!t318))) else (sobriquetlaw03_OidExact.j1 kj3 l0 t289 t292 t293 t296 t297 true))) else (sobriquetlaw03_OidExact.j1 kj3 l0 t289 t292 t293 t296 t297 true)))) else (sobriquetlaw03_OidExact.j1 kj3 l0 t289 t292 t293 t296 t297 true))) else (if bt298.2 = 8 then ((sobriquetkeep_Ints.f kj3 bt298.1 bt306.1).bind fun t319 => (if t319 = true then (if ((bt302.2 == 0) != bt310.2) = true then (sobriquetlaw03_OidExact.j1 kj3 l0 t289 t292 t293 t296 t297 true) else (if bt310.2 = true then ((sobriquetkeep_Ints.f kj3 bt302.1 bt310.1).bind fun t320 => (if t320 = true then ((sobriquetkeep_Ints.f kj3 t289 l0).bind fun t321 => (sobriquetlaw03_OidExact.j1 kj3 l0 t289 t292 t293 t296 t297 (!t321))) else (sobriquetlaw03_OidExact.j1 kj3 l0 t289 t292 t293 t296 t297 true))) else (if bt302.2 = 8 then ((sobriquetkeep_Ints.f kj3 bt302.1 bt310.1).bind fun t322 => (if t322 = true then ((sobriquetkeep_Ints.f kj3 t289 l0).bind fun t323 => (sobriquetlaw03_OidExact.j1 kj3 l0 t289 t292 t293 t296 t297 (!t323))) else (sobriquetlaw03_OidExact.j1 kj3 l0 t289 t292 t293 t296 t297 true))) else (sobriquetlaw03_OidExact.j1 kj3 l0 t289 t292 t293 t296 t297 true)))) else (sobriquetlaw03_OidExact.j1 kj3 l0 t289 t292 t293 t296 t297 true))) else (sobriquetlaw03_OidExact.j1 kj3 l0 t289 t292 t293 t296 t297 true)))))))) = some r := H
        have A10 := Aside0.mk A100
        clear A100
        replace H := Option.bind_eq_some_iff.mp H
        obtain ⟨⟨t298, t301⟩, A110, H⟩ := H
        replace H : ((oid_Parse.f a2).bind fun bt302 => ((sobriquetref01_ReadOid.f kj3 l1).bind fun bt306 => ((sobriquetref01_ParseOid.f kj3 a2).bind fun bt310 => (if ((t301 == 0) != bt306.2) = true then (sobriquetlaw03_OidExact.j1 kj3 l0 t289 t292 t293 t296 t297 true) else (if bt306.2 = true then ((sobriquetkeep_Ints.f kj3 t298 bt306.1).bind fun t314 => (if t314 = true then (if ((bt302.2 == 0) != bt310.2) = true then (sobriquetlaw03_OidExact.j1 kj3 l0 t289 t292 t293 t296 t297 true) else (if bt310.2 = true then ((sobriquetkeep_Ints.f kj3 bt302.1 bt310.1).bind fun t315 => (if t315 = true then ((sobriquetkeep_Ints.f kj3 t289 l0).bind fun t316 => (sobriquetlaw03_OidExact.j1 kj3 l0 t289 t292 t293 t296 t297 (!t316))) else (sobriquetlaw03_OidExact.j1 kj3 l0 t289 t292 t293 t296 t297 true))) else (if bt302.2 = 8 then ((sobriquetkeep_Ints.f kj3 bt302.1 bt310.1).bind fun t317 => (if t317 = true then ((sobriquetkeep_Ints.f kj3 t289 l0).bind fun t318 => (sobriquetlaw03_OidExact.j1 kj3 l0 t289 t292 t293 t296 t297 (!t318))) else (sobriquetlaw03_OidExact.j1 kj3 l0 t289 t292 t293 t296 t297 true))) else (sobriquetlaw03_OidExact.j1 kj3 l0 t289 t292 t293 t296 t297 true)))) else (sobriquetlaw03_OidExact.j1 kj3 l0 t289 t292 t293 t296 t297 true))) else (if t301 = 8 then ((sobriquetkeep_Ints.f kj3 t298 bt306.1).bind fun t319 => (if t319 = true then (if ((bt302.2 == 0) != bt310.2) = true then (sobriquetlaw03_OidExact.j1 kj3 l0 t289 t292 t293 t296 t297 true) else (if bt310.2 = true then ((sobriquetkeep_Ints.f kj3 bt302.1 bt310.1).bind fun t320 => (if t320 = true then ((sobriquetkeep_Ints.f kj3 t289 l0).bind fun t321 => (sobriquetlaw03_OidExact.j1 kj3 l0 t289 t292 t293 t296 t297 (!t321))) else (sobriquetlaw03_OidExact.j1 kj3 l0 t289 t292 t293 t296 t297 true))) else (if bt302.2 = 8 then ((sobriquetkeep_Ints.f kj3 bt302.1 bt310.1).bind fun t322 => (if t322 = true then ((sobriquetkeep_Ints.f kj3 t289 l0).bind fun t323 => (sobriquetlaw03_OidExact.j1 kj3 l0 t289 t292 t293 t296 t297 (!t323))) else (sobriquetlaw03_OidExact.j1 kj3 l0 t289 t292 t293 t296 t297 true))) else (sobriquetlaw03_OidExact.j1 kj3 l0 t289 t292 t293 t296 t297 true)))) else (sobriquetlaw03_OidExact.j1 kj3 l0 t289 t292 t293 t296 t297 true))) else (sobriquetlaw03_OidExact.j1 kj3 l0 t289 t292 t293 t296 t297 true))))))) = some r := H
        have A11 := Aside0.mk A110
        clear A110
        replace H := Option.bind_eq_some_iff.mp H
        obtain ⟨⟨t302, t303⟩, A120, H⟩ := H
        replace H : ((sobriquetref01_ReadOid.f kj3 l1).bind fun bt306 => ((sobriquetref01_ParseOid.f kj3 a2).bind fun bt310 => (if ((t301 == 0) != bt306.2) = true then (sobriquetlaw03_OidExact.j1 kj3 l0 t289 t292 t293 t296 t297 true) else (if bt306.2 = true then ((sobriquetkeep_Ints.f kj3 t298 bt306.1).bind fun t314 => (if t314 = true then (if ((t303 == 0) != bt310.2) = true then (sobriquetlaw03_OidExact.j1 kj3 l0 t289 t292 t293 t296 t297 true) else (if bt310.2 = true then ((sobriquetkeep_Ints.f kj3 t302 bt310.1).bind fun t315 => (if t315 = true then ((sobriquetkeep_Ints.f kj3 t289 l0).bind fun t316 => (sobriquetlaw03_OidExact.j1 kj3 l0 t289 t292 t293 t296 t297 (!t316))) else (sobriquetlaw03_OidExact.j1 kj3 l0 t289 t292 t293 t296 t297 true))) else (if t303 = 8 then ((sobriquetkeep_Ints.f kj3 t302 bt310.1).bind fun t317 => (if t317 = true then ((sobriquetkeep_Ints.f kj3 t289 l0).bind fun t318 => (sobriquetlaw03_OidExact.j1 kj3 l0 t289 t292 t293 t296 t297 (!t318))) else (sobriquetlaw03_OidExact.j1 kj3 l0 t289 t292 t293 t296 t297 true))) else (sobriquetlaw03_OidExact.j1 kj3 l0 t289 t292 t293 t296 t297 true)))) else (sobriquetlaw03_OidExact.j1 kj3 l0 t289 t292 t293 t296 t297 true))) else (if t301 = 8 then ((sobriquetkeep_Ints.f kj3 t298 bt306.1).bind fun t319 => (if t319 = true then (if ((t303 == 0) != bt310.2) = true then (sobriquetlaw03_OidExact.j1 kj3 l0 t289 t292 t293 t296 t297 true) else (if bt310.2 = true then ((sobriquetkeep_Ints.f kj3 t302 bt310.1).bind fun t320 => (if t320 = true then ((sobriquetkeep_Ints.f kj3 t289 l0).bind fun t321 => (sobriquetlaw03_OidExact.j1 kj3 l0 t289 t292 t293 t296 t297 (!t321))) else (sobriquetlaw03_OidExact.j1 kj3 l0 t289 t292 t293 t296 t297 true))) else (if t303 = 8 then ((sobriquetkeep_Ints.f kj3 t302 bt310.1).bind fun t322 => (if t322 = true then ((sobriquetkeep_Ints.f kj3 t289 l0).bind fun t323 => (sobriquetlaw03_OidExact.j1 kj3 l0 t289 t292 t293 t296 t297 (!t323))) else (sobriquetlaw03_OidExact.j1 kj3 l0 t289 t292 t293 t296 t297 true))) else (sobriquetlaw03_OidExact.j1 kj3 l0 t289 t292 t293 t296 t297 true)))) else (sobriquetlaw03_OidExact.j1 kj3 l0 t289 t292 t293 t296 t297 true))) else (sobriquetlaw03_OidExact.j1 kj3 l0 t289 t292 t293 t296 t297 true)))))) = some r := H
        have A12 := Aside0.mk A120
        clear A120
        replace H := Option.bind_eq_some_iff.mp H
        obtain ⟨⟨t306, t307⟩, A130, H⟩ := H
        replace H : ((sobriquetref01_ParseOid.f kj3 a2).bind fun bt310 => (if ((t301 == 0) != t307) = true then (sobriquetlaw03_OidExact.j1 kj3 l0 t289 t292 t293 t296 t297 true) else (if t307 = true then ((sobriquetkeep_Ints.f kj3 t298 t306).bind fun t314 => (if t314 = true then (if ((t303 == 0) != bt310.2) = true then (sobriquetlaw03_OidExact.j1 kj3 l0 t289 t292 t293 t296 t297 true) else (if bt310.2 = true then ((sobriquetkeep_Ints.f kj3 t302 bt310.1).bind fun t315 => (if t315 = true then ((sobriquetkeep_Ints.f kj3 t289 l0).bind fun t316 => (sobriquetlaw03_OidExact.j1 kj3 l0 t289 t292 t293 t296 t297 (!t316))) else (sobriquetlaw03_OidExact.j1 kj3 l0 t289 t292 t293 t296 t297 true))) else (if t303 = 8 then ((sobriquetkeep_Ints.f kj3 t302 bt310.1).bind fun t317 => (if t317 = true then ((sobriquetkeep_Ints.f kj3 t289 l0).bind fun t318 => (sobriquetlaw03_OidExact.j1 kj3 l0 t289 t292 t293 t296 t297 (!t318))) else (sobriquetlaw03_OidExact.j1 kj3 l0 t289 t292 t293 t296 t297 true))) else (sobriquetlaw03_OidExact.j1 kj3 l0 t289 t292 t293 t296 t297 true)))) else (sobriquetlaw03_OidExact.j1 kj3 l0 t289 t292 t293 t296 t297 true))) else (if t301 = 8 then ((sobriquetkeep_Ints.f kj3 t298 t306).bind fun t319 => (if t319 = true then (if ((t303 == 0) != bt310.2) = true then (sobriquetlaw03_OidExact.j1 kj3 l0 t289 t292 t293 t296 t297 true) else (if bt310.2 = true then ((sobriquetkeep_Ints.f kj3 t302 bt310.1).bind fun t320 => (if t320 = true then ((sobriquetkeep_Ints.f kj3 t289 l0).bind fun t321 => (sobriquetlaw03_OidExact.j1 kj3 l0 t289 t292 t293 t296 t297 (!t321))) else (sobriquetlaw03_OidExact.j1 kj3 l0 t289 t292 t293 t296 t297 true))) else (if t303 = 8 then ((sobriquetkeep_Ints.f kj3 t302 bt310.1).bind fun t322 => (if t322 = true then ((sobriquetkeep_Ints.f kj3 t289 l0).bind fun t323 => (sobriquetlaw03_OidExact.j1 kj3 l0 t289 t292 t293 t296 t297 (!t323))) else (sobriquetlaw03_OidExact.j1 kj3 l0 t289 t292 t293 t296 t297 true))) else (sobriquetlaw03_OidExact.j1 kj3 l0 t289 t292 t293 t296 t297 true)))) else (sobriquetlaw03_OidExact.j1 kj3 l0 t289 t292 t293 t296 t297 true))) else (sobriquetlaw03_OidExact.j1 kj3 l0 t289 t292 t293 t296 t297 true))))) = some r := H
        have A13 := Aside0.mk A130
        clear A130
        replace H := Option.bind_eq_some_iff.mp H
        obtain ⟨⟨t310, t311⟩, A140, H⟩ := H
        replace H : (if ((t301 == 0) != t307) = true then (sobriquetlaw03_OidExact.j1 kj3 l0 t289 t292 t293 t296 t297 true) else (if t307 = true then ((sobriquetkeep_Ints.f kj3 t298 t306).bind fun t314 => (if t314 = true then (if ((t303 == 0) != t311) = true then (sobriquetlaw03_OidExact.j1 kj3 l0 t289 t292 t293 t296 t297 true) else (if t311 = true then ((sobriquetkeep_Ints.f kj3 t302 t310).bind fun t315 => (if t315 = true then ((sobriquetkeep_Ints.f kj3 t289 l0).bind fun t316 => (sobriquetlaw03_OidExact.j1 kj3 l0 t289 t292 t293 t296 t297 (!t316))) else (sobriquetlaw03_OidExact.j1 kj3 l0 t289 t292 t293 t296 t297 true))) else (if t303 = 8 then ((sobriquetkeep_Ints.f kj3 t302 t310).bind fun t317 => (if t317 = true then ((sobriquetkeep_Ints.f kj3 t289 l0).bind fun t318 => (sobriquetlaw03_OidExact.j1 kj3 l0 t289 t292 t293 t296 t297 (!t318))) else (sobriquetlaw03_OidExact.j1 kj3 l0 t289 t292 t293 t296 t297 true))) else (sobriquetlaw03_OidExact.j1 kj3 l0 t289 t292 t293 t296 t297 true)))) else (sobriquetlaw03_OidExact.j1 kj3 l0 t289 t292 t293 t296 t297 true))) else (if t301 = 8 then ((sobriquetkeep_Ints.f kj3 t298 t306).bind fun t319 => (if t319 = true then (if ((t303 == 0) != t311) = true then (sobriquetlaw03_OidExact.j1 kj3 l0 t289 t292 t293 t296 t297 true) else (if t311 = true then ((sobriquetkeep_Ints.f kj3 t302 t310).bind fun t320 => (if t320 = true then ((sobriquetkeep_Ints.f kj3 t289 l0).bind fun t321 => (sobriquetlaw03_OidExact.j1 kj3 l0 t289 t292 t293 t296 t297 (!t321))) else (sobriquetlaw03_OidExact.j1 kj3 l0 t289 t292 t293 t296 t297 true))) else (if t303 = 8 then ((sobriquetkeep_Ints.f kj3 t302 t310).bind fun t322 => (if t322 = true then ((sobriquetkeep_Ints.f kj3 t289 l0).bind fun t323 => (sobriquetlaw03_OidExact.j1 kj3 l0 t289 t292 t293 t296 t297 (!t323))) else (sobriquetlaw03_OidExact.j1 kj3 l0 t289 t292 t293 t296 t297 true))) else (sobriquetlaw03_OidExact.j1 kj3 l0 t289 t292 t293 t296 t297 true)))) else (sobriquetlaw03_OidExact.j1 kj3 l0 t289 t292 t293 t296 t297 true))) else (sobriquetlaw03_OidExact.j1 kj3 l0 t289 t292 t293 t296 t297 true)))) = some r := H
        have A14 := Aside0.mk A140
        clear A140
        have HC15 := Aside0.mk H
        clear H
        go_upto_region 10 with (first | ((with_reducible refine gate_callee (f := 13) rfl ?_); refine goesL_ (some 34) rfl rfl Tryd.func13 (by kernel_rfl) rfl #[.slice A0 l0.length c0] rfl (by (try simp only [List.map_toArray, List.map_cons, List.map_nil]); first | done | rfl | (simp only [List.length_drop, List.length_take]; rfl)) ?_; (with_reducible refine (sobriquetkeep_TwinInts.calls _ _ l0 t289 _ ?side1 ?side2 A8.out).mono ?_); (case side1 => repeat (first | exact (Kd.C_below HR0.out HB.out) | (with_reducible refine Kd.C_alloc ?_ _) | (with_reducible refine Kd.C_drewN ?_ _) | (with_reducible refine Kd.C_drew ?_))); (case side2 => exact HC0.out); rintro e w16 ⟨v290, rfl, ho0, hb⟩; refine ⟨_, rfl, ?_⟩; have n0_ := Aside0.mk (Kd.R_lower ho0 (below_size (by repeat (first | (with_reducible first | exact HB.out | apply below_alloc | apply pw_below_drewN | apply below_drew1) | exact HB.out)))); have n1_ := Aside0.mk (below_step (by repeat (first | (with_reducible first | exact HB.out | apply below_alloc | apply pw_below_drewN | apply below_drew1) | exact HB.out)) hb); clear HB; have HO291 := n0_; have HB := n1_; clear n0_ n1_; (try clear hb); (try clear hb2); (try clear hk); (try clear hi); (try clear ho0); obtain ⟨Ao17, co17, eo17⟩ := Kd.R_slice HO291.out; subst eo17) | ((with_reducible refine gate_callee (f := 9) rfl ?_); refine goesL_ (some 37) rfl rfl Tryd.func9 (by kernel_rfl) rfl #[.slice Ao17 t289.length co17] rfl (by (try simp only [List.map_toArray, List.map_cons, List.map_nil]); first | done | rfl | (simp only [List.length_drop, List.length_take]; rfl)) ?_; (with_reducible refine (oid_Content.calls kj3 _ _ t289 t292 t293 _ ?side1 ?side2 A9.out).mono ?_); (case side1 => repeat (first | exact (Kd.R_reads' HO291.out).2.2 | (with_reducible refine Kd.C_alloc ?_ _) | (with_reducible refine Kd.C_drewN ?_ _) | (with_reducible refine Kd.C_drew ?_))); (case side2 => exact (Kd.R_reads' HO291.out).2.1); rintro e w18 ⟨v294, rfl, ho0, hb⟩; refine ⟨_, rfl, ?_⟩; have n0_ := Aside0.mk (Kd.R_below (by (with_reducible repeat (first | apply Kd.R_alloc | apply Kd.R_drewN | apply Kd.R_drew)); exact HO291.out) hb); have n1_ := Aside0.mk (Kd.R_lower ho0 (below_size (by repeat (first | (with_reducible first | exact HB.out | apply below_alloc | apply pw_below_drewN | apply below_drew1) | exact HB.out)))); have n2_ := Aside0.mk (below_step (by repeat (first | (with_reducible first | exact HB.out | apply below_alloc | apply pw_below_drewN | apply below_drew1) | exact HB.out)) hb); clear HO291; clear HB; have HO291 := n0_; have HO295 := n1_; have HB := n2_; clear n0_ n1_ n2_; (try clear hb); (try clear hb2); (try clear hk); (try clear hi); (try clear ho0)) | ((with_reducible refine gate_callee (f := 14) rfl ?_); refine goesL_ (some 42) rfl rfl Tryd.func14 (by kernel_rfl) rfl #[.slice Ao17 t289.length co17] rfl (by (try simp only [List.map_toArray, List.map_cons, List.map_nil]); first | done | rfl | (simp only [List.length_drop, List.length_take]; rfl)) ?_; (with_reducible refine (oid_Text.calls kj3 _ _ t289 t296 t297 _ ?side1 ?side2 A10.out (by ((with_reducible repeat (first | apply Go.Proofs.YtdnclldebkpkfaaDoor.Oid.Glob.alloc | apply Go.Proofs.YtdnclldebkpkfaaDoor.Oid.Glob.drewN | apply Go.Proofs.YtdnclldebkpkfaaDoor.Oid.Glob.drew)); first | exact HG.out | exact HG.out.on HB.out))).mono ?_); (case side1 => repeat (first | exact (Kd.R_reads' HO291.out).2.2 | (with_reducible refine Kd.C_alloc ?_ _) | (with_reducible refine Kd.C_drewN ?_ _) | (with_reducible refine Kd.C_drew ?_))); (case side2 => exact (Kd.R_reads' HO291.out).2.1); rintro e w19 ⟨rfl, hb⟩; refine ⟨_, rfl, ?_⟩; have n0_ := Aside0.mk (Kd.R_below (by (with_reducible repeat (first | apply Kd.R_alloc | apply Kd.R_drewN | apply Kd.R_drew)); exact HO291.out) hb); have n1_ := Aside0.mk (Kd.R_below (by (with_reducible repeat (first | apply Kd.R_alloc | apply Kd.R_drewN | apply Kd.R_drew)); exact HO295.out) hb); have n2_ := Aside0.mk (below_step (by repeat (first | (with_reducible first | exact HB.out | apply below_alloc | apply pw_below_drewN | apply below_drew1) | exact HB.out)) hb); clear HO291; clear HO295; clear HB; have HO291 := n0_; have HO295 := n1_; have HB := n2_; clear n0_ n1_ n2_; (try clear hb); (try clear hb2); (try clear hk); (try clear hi)) | ((with_reducible refine gate_callee (f := 10) rfl ?_); refine goesL_ (some 47) rfl rfl Tryd.func10 (by kernel_rfl) rfl #[.slice A1 l1.length c1] rfl (by (try simp only [List.map_toArray, List.map_cons, List.map_nil]); first | done | rfl | (simp only [List.length_drop, List.length_take]; rfl)) ?_; (with_reducible refine (oid_Read.calls kj3 (fun k_ => k_ < w.heap.size) _ _ l1 t298 t301 _ ?side1 A11.out).mono ?_); (case side1 => exact Kd.V_mk HC1.out (Kd.F_below (Kd.C_F (Kd.heap_int .u8) HR1.out) (by repeat (first | (with_reducible first | exact HB.out | apply below_alloc | apply pw_below_drewN | apply below_drew1) | exact HB.out)))); rintro e w20 ⟨v299, rfl, ho0, hb⟩; refine ⟨_, rfl, ?_⟩; have n0_ := Aside0.mk (Kd.R_elder' (by (with_reducible repeat (first | apply Kd.R_alloc | apply Kd.R_drewN | apply Kd.R_drew)); exact HO291.out) (Kd.R_base ho0) hb); have n1_ := Aside0.mk (Kd.R_below (by (with_reducible repeat (first | apply Kd.R_alloc | apply Kd.R_drewN | apply Kd.R_drew)); exact HO295.out) hb); have n2_ := Aside0.mk (Kd.R_lower (Kd.R_new' (Kd.R_mono (ok' := fun k_ => True) ho0 (fun _ hk_ => trivial)) (Kd.R_lt (by (with_reducible repeat (first | apply Kd.R_alloc | apply Kd.R_drewN | apply Kd.R_drew)); exact HO291.out))) (below_size (by repeat (first | (with_reducible first | exact HB.out | apply below_alloc | apply pw_below_drewN | apply below_drew1) | exact HB.out)))); have n3_ := Aside0.mk (below_step (by repeat (first | (with_reducible first | exact HB.out | apply below_alloc | apply pw_below_drewN | apply below_drew1) | exact HB.out)) hb); clear HO291; clear HO295; clear HB; have HO291 := n0_; have HO295 := n1_; have HO300 := n2_; have HB := n3_; clear n0_ n1_ n2_ n3_; (try clear hb); (try clear hb2); (try clear hk); (try clear hi); (try clear ho0)) | ((with_reducible refine gate_callee (f := 12) rfl ?_); refine goesL_ (some 52) rfl rfl Tryd.func12 (by kernel_rfl) rfl #[.string a2] rfl (by (try simp only [List.map_toArray, List.map_cons, List.map_nil]); first | done | rfl | (simp only [List.length_drop, List.length_take]; rfl)) ?_; (with_reducible refine (oid_Parse.calls a2 t302 t303 _ A12.out (by ((with_reducible repeat (first | apply Go.Proofs.YtdnclldebkpkfaaDoor.Oid.Glob.alloc | apply Go.Proofs.YtdnclldebkpkfaaDoor.Oid.Glob.drewN | apply Go.Proofs.YtdnclldebkpkfaaDoor.Oid.Glob.drew)); first | exact HG.out | exact HG.out.on HB.out))).mono ?_); rintro e w21 ⟨v304, rfl, ho0, hb⟩; refine ⟨_, rfl, ?_⟩; have n0_ := Aside0.mk (Kd.R_elder' (by (with_reducible repeat (first | apply Kd.R_alloc | apply Kd.R_drewN | apply Kd.R_drew)); exact HO291.out) (Kd.R_base ho0) hb); have n1_ := Aside0.mk (Kd.R_below (by (with_reducible repeat (first | apply Kd.R_alloc | apply Kd.R_drewN | apply Kd.R_drew)); exact HO295.out) hb); have n2_ := Aside0.mk (Kd.R_elder' (by (with_reducible repeat (first | apply Kd.R_alloc | apply Kd.R_drewN | apply Kd.R_drew)); exact HO300.out) (Kd.R_base ho0) hb); have n3_ := Aside0.mk (Kd.R_lower (Kd.R_new' (Kd.R_new' ho0 (Kd.R_lt (by (with_reducible repeat (first | apply Kd.R_alloc | apply Kd.R_drewN | apply Kd.R_drew)); exact HO291.out))) (Kd.R_lt (by (with_reducible repeat (first | apply Kd.R_alloc | apply Kd.R_drewN | apply Kd.R_drew)); exact HO300.out))) (below_size (by repeat (first | (with_reducible first | exact HB.out | apply below_alloc | apply pw_below_drewN | apply below_drew1) | exact HB.out)))); have n4_ := Aside0.mk (below_step (by repeat (first | (with_reducible first | exact HB.out | apply below_alloc | apply pw_below_drewN | apply below_drew1) | exact HB.out)) hb); clear HO291; clear HO295; clear HO300; clear HB; have HO291 := n0_; have HO295 := n1_; have HO300 := n2_; have HO305 := n3_; have HB := n4_; clear n0_ n1_ n2_ n3_ n4_; (try clear hb); (try clear hb2); (try clear hk); (try clear hi); (try clear ho0)) | ((with_reducible refine gate_callee (f := 15) rfl ?_); refine goesL_ (some 57) rfl rfl Tryd.func15 (by kernel_rfl) rfl #[.slice A1 l1.length c1] rfl (by (try simp only [List.map_toArray, List.map_cons, List.map_nil]); first | done | rfl | (simp only [List.length_drop, List.length_take]; rfl)) ?_; (with_reducible refine (sobriquetref01_ReadOid.calls kj3 _ _ l1 t306 t307 _ ?side1 ?side2 A13.out).mono ?_); (case side1 => repeat (first | exact (Kd.C_below HR1.out HB.out) | (with_reducible refine Kd.C_alloc ?_ _) | (with_reducible refine Kd.C_drewN ?_ _) | (with_reducible refine Kd.C_drew ?_))); (case side2 => exact HC1.out); rintro e w22 ⟨v308, rfl, ho0, hb⟩; refine ⟨_, rfl, ?_⟩; have n0_ := Aside0.mk (Kd.R_elder' (by (with_reducible repeat (first | apply Kd.R_alloc | apply Kd.R_drewN | apply Kd.R_drew)); exact HO291.out) (Kd.R_base ho0) hb); have n1_ := Aside0.mk (Kd.R_below (by (with_reducible repeat (first | apply Kd.R_alloc | apply Kd.R_drewN | apply Kd.R_drew)); exact HO295.out) hb); have n2_ := Aside0.mk (Kd.R_elder' (by (with_reducible repeat (first | apply Kd.R_alloc | apply Kd.R_drewN | apply Kd.R_drew)); exact HO300.out) (Kd.R_base ho0) hb); have n3_ := Aside0.mk (Kd.R_elder' (by (with_reducible repeat (first | apply Kd.R_alloc | apply Kd.R_drewN | apply Kd.R_drew)); exact HO305.out) (Kd.R_base ho0) hb); have n4_ := Aside0.mk (Kd.R_lower (Kd.R_new' (Kd.R_new' (Kd.R_new' ho0 (Kd.R_lt (by (with_reducible repeat (first | apply Kd.R_alloc | apply Kd.R_drewN | apply Kd.R_drew)); exact HO291.out))) (Kd.R_lt (by (with_reducible repeat (first | apply Kd.R_alloc | apply Kd.R_drewN | apply Kd.R_drew)); exact HO300.out))) (Kd.R_lt (by (with_reducible repeat (first | apply Kd.R_alloc | apply Kd.R_drewN | apply Kd.R_drew)); exact HO305.out))) (below_size (by repeat (first | (with_reducible first | exact HB.out | apply below_alloc | apply pw_below_drewN | apply below_drew1) | exact HB.out)))); have n5_ := Aside0.mk (below_step (by repeat (first | (with_reducible first | exact HB.out | apply below_alloc | apply pw_below_drewN | apply below_drew1) | exact HB.out)) hb); clear HO291; clear HO295; clear HO300; clear HO305; clear HB; have HO291 := n0_; have HO295 := n1_; have HO300 := n2_; have HO305 := n3_; have HO309 := n4_; have HB := n5_; clear n0_ n1_ n2_ n3_ n4_ n5_; (try clear hb); (try clear hb2); (try clear hk); (try clear hi); (try clear ho0)) | ((with_reducible refine gate_callee (f := 16) rfl ?_); refine goesL_ (some 62) rfl rfl Tryd.func16 (by kernel_rfl) rfl #[.string a2] rfl (by (try simp only [List.map_toArray, List.map_cons, List.map_nil]); first | done | rfl | (simp only [List.length_drop, List.length_take]; rfl)) ?_; (with_reducible refine (sobriquetref01_ParseOid.calls kj3 a2 t310 t311 _ A14.out).mono ?_); rintro e w23 ⟨v312, rfl, ho0, hb⟩; refine ⟨_, rfl, ?_⟩; have n0_ := Aside0.mk (Kd.R_elder' (by (with_reducible repeat (first | apply Kd.R_alloc | apply Kd.R_drewN | apply Kd.R_drew)); exact HO291.out) (Kd.R_base ho0) hb); have n1_ := Aside0.mk (Kd.R_below (by (with_reducible repeat (first | apply Kd.R_alloc | apply Kd.R_drewN | apply Kd.R_drew)); exact HO295.out) hb); have n2_ := Aside0.mk (Kd.R_elder' (by (with_reducible repeat (first | apply Kd.R_alloc | apply Kd.R_drewN | apply Kd.R_drew)); exact HO300.out) (Kd.R_base ho0) hb); have n3_ := Aside0.mk (Kd.R_elder' (by (with_reducible repeat (first | apply Kd.R_alloc | apply Kd.R_drewN | apply Kd.R_drew)); exact HO305.out) (Kd.R_base ho0) hb); have n4_ := Aside0.mk (Kd.R_elder' (by (with_reducible repeat (first | apply Kd.R_alloc | apply Kd.R_drewN | apply Kd.R_drew)); exact HO309.out) (Kd.R_base ho0) hb); have n5_ := Aside0.mk (Kd.R_lower (Kd.R_new' (Kd.R_new' (Kd.R_new' (Kd.R_new' ho0 (Kd.R_lt (by (with_reducible repeat (first | apply Kd.R_alloc | apply Kd.R_drewN | apply Kd.R_drew)); exact HO291.out))) (Kd.R_lt (by (with_reducible repeat (first | apply Kd.R_alloc | apply Kd.R_drewN | apply Kd.R_drew)); exact HO300.out))) (Kd.R_lt (by (with_reducible repeat (first | apply Kd.R_alloc | apply Kd.R_drewN | apply Kd.R_drew)); exact HO305.out))) (Kd.R_lt (by (with_reducible repeat (first | apply Kd.R_alloc | apply Kd.R_drewN | apply Kd.R_drew)); exact HO309.out))) (below_size (by repeat (first | (with_reducible first | exact HB.out | apply below_alloc | apply pw_below_drewN | apply below_drew1) | exact HB.out)))); have n6_ := Aside0.mk (below_step (by repeat (first | (with_reducible first | exact HB.out | apply below_alloc | apply pw_below_drewN | apply below_drew1) | exact HB.out)) hb); clear HO291; clear HO295; clear HO300; clear HO305; clear HO309; clear HB; have HO291 := n0_; have HO295 := n1_; have HO300 := n2_; have HO305 := n3_; have HO309 := n4_; have HO313 := n5_; have HB := n6_; clear n0_ n1_ n2_ n3_ n4_ n5_ n6_; (try clear hb); (try clear hb2); (try clear hk); (try clear hi); (try clear ho0)))
        (try simp only [Act.put, List.setIfInBounds_toArray, List.set_cons_zero, List.set_cons_succ])
        go_cut [108] (fun v108 wc => ∃ (kq : Nat) (x108_14 : Bool), v108 = .bool x108_14 ∧ Aside0 (sobriquetlaw03_OidExact.j1 kq l0 t289 t292 t293 t296 t297 x108_14 = some r) ∧ Aside0 (kq ≤ kj3) ∧ Aside0 (Kd.R (Kd.int .i64) 3 wc w.heap.size (fun _ => True) (.slice Ao17 t289.length co17) t289) ∧ Aside0 (Kd.R (Kd.int .u8) 5 wc w.heap.size (fun _ => True) v294 t292) ∧ Aside0 (Below w.heap.size w wc))
        case first =>
          have H := HC15.out
          clear HC15
          by_cases c24 : ((t301 == 0) != t307) = true
          · rw [if_pos c24] at H
            have c24b0 : ((t301 == 0) != t307) = true := c24
            (try (have c24b1 : decide ((t301 == 0) = t307) = false := by simpa using c24))
            (try (have c24b2 : ((t301 == 0) == t307) = false := by simpa using c24))
            (try (have c24b3 : ¬ ((t301 == 0) = t307) := by simpa using c24))
            clear c24
            (first | rw [c24b0] | (simp only [i64_w, i32_w]; rw [c24b0]) | skip)
            have H' := Aside0.mk H
            clear H
            go_wp2
            go_meet
            case rel => exact ⟨_, (true), (by first | rfl | (simp; done) | (simp [*]; done)), H', ⟨by have := HJ3.out; first | omega | exact Nat.le_refl _⟩, ⟨by (with_reducible repeat (first | apply Kd.R_alloc | apply Kd.R_drewN | apply Kd.R_drew)); exact Kd.R_mono HO291.out (fun _ hk => trivial)⟩, ⟨by (with_reducible repeat (first | apply Kd.R_alloc | apply Kd.R_drewN | apply Kd.R_drew)); exact HO295.out⟩, ⟨by repeat (first | (with_reducible first | exact HB.out | apply below_alloc | apply pw_below_drewN | apply below_drew1) | exact HB.out)⟩⟩
          · rw [if_neg c24] at H
            have c24b0 : ((t301 == 0) != t307) = false := by simpa using c24
            (try (have c24b1 : decide ((t301 == 0) = t307) = true := by simpa using c24))
            (try (have c24b2 : ((t301 == 0) == t307) = true := by simpa using c24))
            clear c24
            (first | rw [c24b0] | (simp only [i64_w, i32_w]; rw [c24b0]) | skip)
            by_cases c25 : t307 = true
            · subst c25
              have H1 : ((sobriquetkeep_Ints.f kj3 t298 t306).bind fun t314 => (if t314 = true then (if ((t303 == 0) != t311) = true then (sobriquetlaw03_OidExact.j1 kj3 l0 t289 t292 t293 t296 t297 true) else (if t311 = true then ((sobriquetkeep_Ints.f kj3 t302 t310).bind fun t315 => (if t315 = true then ((sobriquetkeep_Ints.f kj3 t289 l0).bind fun t316 => (sobriquetlaw03_OidExact.j1 kj3 l0 t289 t292 t293 t296 t297 (!t316))) else (sobriquetlaw03_OidExact.j1 kj3 l0 t289 t292 t293 t296 t297 true))) else (if t303 = 8 then ((sobriquetkeep_Ints.f kj3 t302 t310).bind fun t317 => (if t317 = true then ((sobriquetkeep_Ints.f kj3 t289 l0).bind fun t318 => (sobriquetlaw03_OidExact.j1 kj3 l0 t289 t292 t293 t296 t297 (!t318))) else (sobriquetlaw03_OidExact.j1 kj3 l0 t289 t292 t293 t296 t297 true))) else (sobriquetlaw03_OidExact.j1 kj3 l0 t289 t292 t293 t296 t297 true)))) else (sobriquetlaw03_OidExact.j1 kj3 l0 t289 t292 t293 t296 t297 true))) = some r := by rw [if_pos rfl] at H; exact H
              clear H
              have H := H1
              clear H1
              replace H := Option.bind_eq_some_iff.mp H
              obtain ⟨t314, A260, H⟩ := H
              replace H : (if t314 = true then (if ((t303 == 0) != t311) = true then (sobriquetlaw03_OidExact.j1 kj3 l0 t289 t292 t293 t296 t297 true) else (if t311 = true then ((sobriquetkeep_Ints.f kj3 t302 t310).bind fun t315 => (if t315 = true then ((sobriquetkeep_Ints.f kj3 t289 l0).bind fun t316 => (sobriquetlaw03_OidExact.j1 kj3 l0 t289 t292 t293 t296 t297 (!t316))) else (sobriquetlaw03_OidExact.j1 kj3 l0 t289 t292 t293 t296 t297 true))) else (if t303 = 8 then ((sobriquetkeep_Ints.f kj3 t302 t310).bind fun t317 => (if t317 = true then ((sobriquetkeep_Ints.f kj3 t289 l0).bind fun t318 => (sobriquetlaw03_OidExact.j1 kj3 l0 t289 t292 t293 t296 t297 (!t318))) else (sobriquetlaw03_OidExact.j1 kj3 l0 t289 t292 t293 t296 t297 true))) else (sobriquetlaw03_OidExact.j1 kj3 l0 t289 t292 t293 t296 t297 true)))) else (sobriquetlaw03_OidExact.j1 kj3 l0 t289 t292 t293 t296 t297 true)) = some r := H
              have A26 := Aside0.mk A260
              clear A260
              by_cases c27 : t314 = true
              · subst c27
                have H1 : (if ((t303 == 0) != t311) = true then (sobriquetlaw03_OidExact.j1 kj3 l0 t289 t292 t293 t296 t297 true) else (if t311 = true then ((sobriquetkeep_Ints.f kj3 t302 t310).bind fun t315 => (if t315 = true then ((sobriquetkeep_Ints.f kj3 t289 l0).bind fun t316 => (sobriquetlaw03_OidExact.j1 kj3 l0 t289 t292 t293 t296 t297 (!t316))) else (sobriquetlaw03_OidExact.j1 kj3 l0 t289 t292 t293 t296 t297 true))) else (if t303 = 8 then ((sobriquetkeep_Ints.f kj3 t302 t310).bind fun t317 => (if t317 = true then ((sobriquetkeep_Ints.f kj3 t289 l0).bind fun t318 => (sobriquetlaw03_OidExact.j1 kj3 l0 t289 t292 t293 t296 t297 (!t318))) else (sobriquetlaw03_OidExact.j1 kj3 l0 t289 t292 t293 t296 t297 true))) else (sobriquetlaw03_OidExact.j1 kj3 l0 t289 t292 t293 t296 t297 true)))) = some r := by rw [if_pos rfl] at H; exact H
                clear H
                have H := H1
                clear H1
                by_cases c28 : ((t303 == 0) != t311) = true
                · rw [if_pos c28] at H
                  have c28b0 : ((t303 == 0) != t311) = true := c28
                  (try (have c28b1 : decide ((t303 == 0) = t311) = false := by simpa using c28))
                  (try (have c28b2 : ((t303 == 0) == t311) = false := by simpa using c28))
                  (try (have c28b3 : ¬ ((t303 == 0) = t311) := by simpa using c28))
                  clear c28
                  have H' := Aside0.mk H
                  clear H
                  obtain ⟨Ao29, co29, eo29⟩ := Kd.R_slice HO300.out
                  subst eo29
                  obtain ⟨Ao30, co30, eo30⟩ := Kd.R_slice HO309.out
                  subst eo30
                  go_wp2_with (first | (go_at_call 11; (with_reducible refine (sobriquetkeep_Ints.calls kj3 _ _ t298 _ _ t306 true _ ?side1 ?side2 ?side3 ?side4 A26.out).mono ?_); (case side1 => repeat (first | exact (Kd.R_reads' HO300.out).2.2 | (with_reducible refine Kd.C_alloc ?_ _) | (with_reducible refine Kd.C_drewN ?_ _) | (with_reducible refine Kd.C_drew ?_))); (case side2 => exact (Kd.R_reads' HO300.out).2.1); (case side3 => repeat (first | exact (Kd.R_reads' HO309.out).2.2 | (with_reducible refine Kd.C_alloc ?_ _) | (with_reducible refine Kd.C_drewN ?_ _) | (with_reducible refine Kd.C_drew ?_))); (case side4 => exact (Kd.R_reads' HO309.out).2.1); rintro e w' ⟨rfl, ⟨nd, rfl⟩⟩))
                  go_meet
                  case rel => exact ⟨_, (true), (by first | rfl | (simp; done) | (simp [*]; done)), H', ⟨by have := HJ3.out; first | omega | exact Nat.le_refl _⟩, ⟨by (with_reducible repeat (first | apply Kd.R_alloc | apply Kd.R_drewN | apply Kd.R_drew)); exact Kd.R_mono HO291.out (fun _ hk => trivial)⟩, ⟨by (with_reducible repeat (first | apply Kd.R_alloc | apply Kd.R_drewN | apply Kd.R_drew)); exact HO295.out⟩, ⟨by repeat (first | (with_reducible first | exact HB.out | apply below_alloc | apply pw_below_drewN | apply below_drew1) | exact HB.out)⟩⟩
                · rw [if_neg c28] at H
                  have c28b0 : ((t303 == 0) != t311) = false := by simpa using c28
                  (try (have c28b1 : decide ((t303 == 0) = t311) = true := by simpa using c28))
                  (try (have c28b2 : ((t303 == 0) == t311) = true := by simpa using c28))
                  clear c28
                  by_cases c31 : t311 = true
                  · subst c31
                    have H1 : ((sobriquetkeep_Ints.f kj3 t302 t310).bind fun t315 => (if t315 = true then ((sobriquetkeep_Ints.f kj3 t289 l0).bind fun t316 => (sobriquetlaw03_OidExact.j1 kj3 l0 t289 t292 t293 t296 t297 (!t316))) else (sobriquetlaw03_OidExact.j1 kj3 l0 t289 t292 t293 t296 t297 true))) = some r := by rw [if_pos rfl] at H; exact H
                    clear H
                    have H := H1
                    clear H1
                    replace H := Option.bind_eq_some_iff.mp H
                    obtain ⟨t315, A320, H⟩ := H
                    replace H : (if t315 = true then ((sobriquetkeep_Ints.f kj3 t289 l0).bind fun t316 => (sobriquetlaw03_OidExact.j1 kj3 l0 t289 t292 t293 t296 t297 (!t316))) else (sobriquetlaw03_OidExact.j1 kj3 l0 t289 t292 t293 t296 t297 true)) = some r := H
                    have A32 := Aside0.mk A320
                    clear A320
                    by_cases c33 : t315 = true
                    · subst c33
                      have H1 : ((sobriquetkeep_Ints.f kj3 t289 l0).bind fun t316 => (sobriquetlaw03_OidExact.j1 kj3 l0 t289 t292 t293 t296 t297 (!t316))) = some r := by rw [if_pos rfl] at H; exact H
                      clear H
                      have H := H1
                      clear H1
                      replace H := Option.bind_eq_some_iff.mp H
                      obtain ⟨t316, A340, H⟩ := H
                      replace H : (sobriquetlaw03_OidExact.j1 kj3 l0 t289 t292 t293 t296 t297 (!t316)) = some r := H
                      have A34 := Aside0.mk A340
                      clear A340
                      have H' := Aside0.mk H
                      clear H
                      obtain ⟨Ao35, co35, eo35⟩ := Kd.R_slice HO300.out
                      subst eo35
                      obtain ⟨Ao36, co36, eo36⟩ := Kd.R_slice HO309.out
                      subst eo36
                      go_wp2_with (first | (go_at_call 11; (with_reducible refine (sobriquetkeep_Ints.calls kj3 _ _ t298 _ _ t306 true _ ?side1 ?side2 ?side3 ?side4 A26.out).mono ?_); (case side1 => repeat (first | exact (Kd.R_reads' HO300.out).2.2 | (with_reducible refine Kd.C_alloc ?_ _) | (with_reducible refine Kd.C_drewN ?_ _) | (with_reducible refine Kd.C_drew ?_))); (case side2 => exact (Kd.R_reads' HO300.out).2.1); (case side3 => repeat (first | exact (Kd.R_reads' HO309.out).2.2 | (with_reducible refine Kd.C_alloc ?_ _) | (with_reducible refine Kd.C_drewN ?_ _) | (with_reducible refine Kd.C_drew ?_))); (case side4 => exact (Kd.R_reads' HO309.out).2.1); rintro e w' ⟨rfl, ⟨nd, rfl⟩⟩; obtain ⟨Ao37, co37, eo37⟩ := Kd.R_slice HO305.out; subst eo37; obtain ⟨Ao38, co38, eo38⟩ := Kd.R_slice HO313.out; subst eo38) | (go_at_call 11; (with_reducible refine (sobriquetkeep_Ints.calls kj3 _ _ t302 _ _ t310 true _ ?side1 ?side2 ?side3 ?side4 A32.out).mono ?_); (case side1 => repeat (first | exact (Kd.R_reads' HO305.out).2.2 | (with_reducible refine Kd.C_alloc ?_ _) | (with_reducible refine Kd.C_drewN ?_ _) | (with_reducible refine Kd.C_drew ?_))); (case side2 => exact (Kd.R_reads' HO305.out).2.1); (case side3 => repeat (first | exact (Kd.R_reads' HO313.out).2.2 | (with_reducible refine Kd.C_alloc ?_ _) | (with_reducible refine Kd.C_drewN ?_ _) | (with_reducible refine Kd.C_drew ?_))); (case side4 => exact (Kd.R_reads' HO313.out).2.1); rintro e w' ⟨rfl, ⟨nd, rfl⟩⟩) | (go_at_call 11; (with_reducible refine (sobriquetkeep_Ints.calls kj3 _ _ t289 _ _ l0 t316 _ ?side1 ?side2 ?side3 ?side4 A34.out).mono ?_); (case side1 => repeat (first | exact (Kd.R_reads' HO291.out).2.2 | (with_reducible refine Kd.C_alloc ?_ _) | (with_reducible refine Kd.C_drewN ?_ _) | (with_reducible refine Kd.C_drew ?_))); (case side2 => exact (Kd.R_reads' HO291.out).2.1); (case side3 => repeat (first | exact (Kd.C_below HR0.out (by repeat (first | (with_reducible first | exact HB.out | apply below_alloc | apply pw_below_drewN | apply below_drew1) | exact HB.out))) | (with_reducible refine Kd.C_alloc ?_ _) | (with_reducible refine Kd.C_drewN ?_ _) | (with_reducible refine Kd.C_drew ?_))); (case side4 => exact HC0.out); rintro e w' ⟨rfl, ⟨nd, rfl⟩⟩))
                      go_meet
                      case rel => exact ⟨_, (!t316), (by first | rfl | (simp; done) | (simp [*]; done)), H', ⟨by have := HJ3.out; first | omega | exact Nat.le_refl _⟩, ⟨by (with_reducible repeat (first | apply Kd.R_alloc | apply Kd.R_drewN | apply Kd.R_drew)); exact Kd.R_mono HO291.out (fun _ hk => trivial)⟩, ⟨by (with_reducible repeat (first | apply Kd.R_alloc | apply Kd.R_drewN | apply Kd.R_drew)); exact HO295.out⟩, ⟨by repeat (first | (with_reducible first | exact HB.out | apply below_alloc | apply pw_below_drewN | apply below_drew1) | exact HB.out)⟩⟩
                    · replace c33 := Bool.eq_false_iff.mpr c33
                      subst c33
                      have H1 : (sobriquetlaw03_OidExact.j1 kj3 l0 t289 t292 t293 t296 t297 true) = some r := by rw [if_neg (show ¬ (false = true) by decide)] at H; exact H
                      clear H
                      have H := H1
                      clear H1
                      have H' := Aside0.mk H
                      clear H
                      obtain ⟨Ao39, co39, eo39⟩ := Kd.R_slice HO300.out
                      subst eo39
                      obtain ⟨Ao40, co40, eo40⟩ := Kd.R_slice HO309.out
                      subst eo40
                      go_wp2_with (first | (go_at_call 11; (with_reducible refine (sobriquetkeep_Ints.calls kj3 _ _ t298 _ _ t306 true _ ?side1 ?side2 ?side3 ?side4 A26.out).mono ?_); (case side1 => repeat (first | exact (Kd.R_reads' HO300.out).2.2 | (with_reducible refine Kd.C_alloc ?_ _) | (with_reducible refine Kd.C_drewN ?_ _) | (with_reducible refine Kd.C_drew ?_))); (case side2 => exact (Kd.R_reads' HO300.out).2.1); (case side3 => repeat (first | exact (Kd.R_reads' HO309.out).2.2 | (with_reducible refine Kd.C_alloc ?_ _) | (with_reducible refine Kd.C_drewN ?_ _) | (with_reducible refine Kd.C_drew ?_))); (case side4 => exact (Kd.R_reads' HO309.out).2.1); rintro e w' ⟨rfl, ⟨nd, rfl⟩⟩; obtain ⟨Ao41, co41, eo41⟩ := Kd.R_slice HO305.out; subst eo41; obtain ⟨Ao42, co42, eo42⟩ := Kd.R_slice HO313.out; subst eo42) | (go_at_call 11; (with_reducible refine (sobriquetkeep_Ints.calls kj3 _ _ t302 _ _ t310 false _ ?side1 ?side2 ?side3 ?side4 A32.out).mono ?_); (case side1 => repeat (first | exact (Kd.R_reads' HO305.out).2.2 | (with_reducible refine Kd.C_alloc ?_ _) | (with_reducible refine Kd.C_drewN ?_ _) | (with_reducible refine Kd.C_drew ?_))); (case side2 => exact (Kd.R_reads' HO305.out).2.1); (case side3 => repeat (first | exact (Kd.R_reads' HO313.out).2.2 | (with_reducible refine Kd.C_alloc ?_ _) | (with_reducible refine Kd.C_drewN ?_ _) | (with_reducible refine Kd.C_drew ?_))); (case side4 => exact (Kd.R_reads' HO313.out).2.1); rintro e w' ⟨rfl, ⟨nd, rfl⟩⟩))
                      go_meet
                      case rel => exact ⟨_, (true), (by first | rfl | (simp; done) | (simp [*]; done)), H', ⟨by have := HJ3.out; first | omega | exact Nat.le_refl _⟩, ⟨by (with_reducible repeat (first | apply Kd.R_alloc | apply Kd.R_drewN | apply Kd.R_drew)); exact Kd.R_mono HO291.out (fun _ hk => trivial)⟩, ⟨by (with_reducible repeat (first | apply Kd.R_alloc | apply Kd.R_drewN | apply Kd.R_drew)); exact HO295.out⟩, ⟨by repeat (first | (with_reducible first | exact HB.out | apply below_alloc | apply pw_below_drewN | apply below_drew1) | exact HB.out)⟩⟩
                  · replace c31 := Bool.eq_false_iff.mpr c31
                    subst c31
                    have H1 : (if t303 = 8 then ((sobriquetkeep_Ints.f kj3 t302 t310).bind fun t317 => (if t317 = true then ((sobriquetkeep_Ints.f kj3 t289 l0).bind fun t318 => (sobriquetlaw03_OidExact.j1 kj3 l0 t289 t292 t293 t296 t297 (!t318))) else (sobriquetlaw03_OidExact.j1 kj3 l0 t289 t292 t293 t296 t297 true))) else (sobriquetlaw03_OidExact.j1 kj3 l0 t289 t292 t293 t296 t297 true)) = some r := by rw [if_neg (show ¬ (false = true) by decide)] at H; exact H
                    clear H
                    have H := H1
                    clear H1
                    by_cases c43 : t303 = 8
                    · rw [if_pos c43] at H
                      have c43b0 : (t303 == 8) = true := beq_iff_eq.mpr c43
                      have c43b1 : (t303 != 8) = false := bne_eq_false_iff_eq.mpr c43
                      clear c43
                      replace H := Option.bind_eq_some_iff.mp H
                      obtain ⟨t317, A440, H⟩ := H
                      replace H : (if t317 = true then ((sobriquetkeep_Ints.f kj3 t289 l0).bind fun t318 => (sobriquetlaw03_OidExact.j1 kj3 l0 t289 t292 t293 t296 t297 (!t318))) else (sobriquetlaw03_OidExact.j1 kj3 l0 t289 t292 t293 t296 t297 true)) = some r := H
                      have A44 := Aside0.mk A440
                      clear A440
                      by_cases c45 : t317 = true
                      · subst c45
                        have H1 : ((sobriquetkeep_Ints.f kj3 t289 l0).bind fun t318 => (sobriquetlaw03_OidExact.j1 kj3 l0 t289 t292 t293 t296 t297 (!t318))) = some r := by rw [if_pos rfl] at H; exact H
                        clear H
                        have H := H1
                        clear H1
                        replace H := Option.bind_eq_some_iff.mp H
                        obtain ⟨t318, A460, H⟩ := H
                        replace H : (sobriquetlaw03_OidExact.j1 kj3 l0 t289 t292 t293 t296 t297 (!t318)) = some r := H
                        have A46 := Aside0.mk A460
                        clear A460
                        have H' := Aside0.mk H
                        clear H
                        obtain ⟨Ao47, co47, eo47⟩ := Kd.R_slice HO300.out
                        subst eo47
                        obtain ⟨Ao48, co48, eo48⟩ := Kd.R_slice HO309.out
                        subst eo48
                        go_wp2_with (first | (go_at_call 11; (with_reducible refine (sobriquetkeep_Ints.calls kj3 _ _ t298 _ _ t306 true _ ?side1 ?side2 ?side3 ?side4 A26.out).mono ?_); (case side1 => repeat (first | exact (Kd.R_reads' HO300.out).2.2 | (with_reducible refine Kd.C_alloc ?_ _) | (with_reducible refine Kd.C_drewN ?_ _) | (with_reducible refine Kd.C_drew ?_))); (case side2 => exact (Kd.R_reads' HO300.out).2.1); (case side3 => repeat (first | exact (Kd.R_reads' HO309.out).2.2 | (with_reducible refine Kd.C_alloc ?_ _) | (with_reducible refine Kd.C_drewN ?_ _) | (with_reducible refine Kd.C_drew ?_))); (case side4 => exact (Kd.R_reads' HO309.out).2.1); rintro e w' ⟨rfl, ⟨nd, rfl⟩⟩; obtain ⟨Ao49, co49, eo49⟩ := Kd.R_slice HO305.out; subst eo49; obtain ⟨Ao50, co50, eo50⟩ := Kd.R_slice HO313.out; subst eo50) | (go_at_call 11; (with_reducible refine (sobriquetkeep_Ints.calls kj3 _ _ t302 _ _ t310 true _ ?side1 ?side2 ?side3 ?side4 A44.out).mono ?_); (case side1 => repeat (first | exact (Kd.R_reads' HO305.out).2.2 | (with_reducible refine Kd.C_alloc ?_ _) | (with_reducible refine Kd.C_drewN ?_ _) | (with_reducible refine Kd.C_drew ?_))); (case side2 => exact (Kd.R_reads' HO305.out).2.1); (case side3 => repeat (first | exact (Kd.R_reads' HO313.out).2.2 | (with_reducible refine Kd.C_alloc ?_ _) | (with_reducible refine Kd.C_drewN ?_ _) | (with_reducible refine Kd.C_drew ?_))); (case side4 => exact (Kd.R_reads' HO313.out).2.1); rintro e w' ⟨rfl, ⟨nd, rfl⟩⟩) | (go_at_call 11; (with_reducible refine (sobriquetkeep_Ints.calls kj3 _ _ t289 _ _ l0 t318 _ ?side1 ?side2 ?side3 ?side4 A46.out).mono ?_); (case side1 => repeat (first | exact (Kd.R_reads' HO291.out).2.2 | (with_reducible refine Kd.C_alloc ?_ _) | (with_reducible refine Kd.C_drewN ?_ _) | (with_reducible refine Kd.C_drew ?_))); (case side2 => exact (Kd.R_reads' HO291.out).2.1); (case side3 => repeat (first | exact (Kd.C_below HR0.out (by repeat (first | (with_reducible first | exact HB.out | apply below_alloc | apply pw_below_drewN | apply below_drew1) | exact HB.out))) | (with_reducible refine Kd.C_alloc ?_ _) | (with_reducible refine Kd.C_drewN ?_ _) | (with_reducible refine Kd.C_drew ?_))); (case side4 => exact HC0.out); rintro e w' ⟨rfl, ⟨nd, rfl⟩⟩))
                        go_meet
                        case rel => exact ⟨_, (!t318), (by first | rfl | (simp; done) | (simp [*]; done)), H', ⟨by have := HJ3.out; first | omega | exact Nat.le_refl _⟩, ⟨by (with_reducible repeat (first | apply Kd.R_alloc | apply Kd.R_drewN | apply Kd.R_drew)); exact Kd.R_mono HO291.out (fun _ hk => trivial)⟩, ⟨by (with_reducible repeat (first | apply Kd.R_alloc | apply Kd.R_drewN | apply Kd.R_drew)); exact HO295.out⟩, ⟨by repeat (first | (with_reducible first | exact HB.out | apply below_alloc | apply pw_below_drewN | apply below_drew1) | exact HB.out)⟩⟩
                      · replace c45 := Bool.eq_false_iff.mpr c45
                        subst c45
                        have H1 : (sobriquetlaw03_OidExact.j1 kj3 l0 t289 t292 t293 t296 t297 true) = some r := by rw [if_neg (show ¬ (false = true) by decide)] at H; exact H
                        clear H
                        have H := H1
                        clear H1
                        have H' := Aside0.mk H
                        clear H
                        obtain ⟨Ao51, co51, eo51⟩ := Kd.R_slice HO300.out
                        subst eo51
                        obtain ⟨Ao52, co52, eo52⟩ := Kd.R_slice HO309.out
                        subst eo52
                        go_wp2_with (first | (go_at_call 11; (with_reducible refine (sobriquetkeep_Ints.calls kj3 _ _ t298 _ _ t306 true _ ?side1 ?side2 ?side3 ?side4 A26.out).mono ?_); (case side1 => repeat (first | exact (Kd.R_reads' HO300.out).2.2 | (with_reducible refine Kd.C_alloc ?_ _) | (with_reducible refine Kd.C_drewN ?_ _) | (with_reducible refine Kd.C_drew ?_))); (case side2 => exact (Kd.R_reads' HO300.out).2.1); (case side3 => repeat (first | exact (Kd.R_reads' HO309.out).2.2 | (with_reducible refine Kd.C_alloc ?_ _) | (with_reducible refine Kd.C_drewN ?_ _) | (with_reducible refine Kd.C_drew ?_))); (case side4 => exact (Kd.R_reads' HO309.out).2.1); rintro e w' ⟨rfl, ⟨nd, rfl⟩⟩; obtain ⟨Ao53, co53, eo53⟩ := Kd.R_slice HO305.out; subst eo53; obtain ⟨Ao54, co54, eo54⟩ := Kd.R_slice HO313.out; subst eo54) | (go_at_call 11; (with_reducible refine (sobriquetkeep_Ints.calls kj3 _ _ t302 _ _ t310 false _ ?side1 ?side2 ?side3 ?side4 A44.out).mono ?_); (case side1 => repeat (first | exact (Kd.R_reads' HO305.out).2.2 | (with_reducible refine Kd.C_alloc ?_ _) | (with_reducible refine Kd.C_drewN ?_ _) | (with_reducible refine Kd.C_drew ?_))); (case side2 => exact (Kd.R_reads' HO305.out).2.1); (case side3 => repeat (first | exact (Kd.R_reads' HO313.out).2.2 | (with_reducible refine Kd.C_alloc ?_ _) | (with_reducible refine Kd.C_drewN ?_ _) | (with_reducible refine Kd.C_drew ?_))); (case side4 => exact (Kd.R_reads' HO313.out).2.1); rintro e w' ⟨rfl, ⟨nd, rfl⟩⟩))
                        go_meet
                        case rel => exact ⟨_, (true), (by first | rfl | (simp; done) | (simp [*]; done)), H', ⟨by have := HJ3.out; first | omega | exact Nat.le_refl _⟩, ⟨by (with_reducible repeat (first | apply Kd.R_alloc | apply Kd.R_drewN | apply Kd.R_drew)); exact Kd.R_mono HO291.out (fun _ hk => trivial)⟩, ⟨by (with_reducible repeat (first | apply Kd.R_alloc | apply Kd.R_drewN | apply Kd.R_drew)); exact HO295.out⟩, ⟨by repeat (first | (with_reducible first | exact HB.out | apply below_alloc | apply pw_below_drewN | apply below_drew1) | exact HB.out)⟩⟩
                    · rw [if_neg c43] at H
                      have c43b0 : (t303 == 8) = false := beq_eq_false_iff_ne.mpr c43
                      have c43b1 : (t303 != 8) = true := bne_iff_ne.mpr c43
                      have H' := Aside0.mk H
                      clear H
                      obtain ⟨Ao55, co55, eo55⟩ := Kd.R_slice HO300.out
                      subst eo55
                      obtain ⟨Ao56, co56, eo56⟩ := Kd.R_slice HO309.out
                      subst eo56
                      go_wp2_with (first | (go_at_call 11; (with_reducible refine (sobriquetkeep_Ints.calls kj3 _ _ t298 _ _ t306 true _ ?side1 ?side2 ?side3 ?side4 A26.out).mono ?_); (case side1 => repeat (first | exact (Kd.R_reads' HO300.out).2.2 | (with_reducible refine Kd.C_alloc ?_ _) | (with_reducible refine Kd.C_drewN ?_ _) | (with_reducible refine Kd.C_drew ?_))); (case side2 => exact (Kd.R_reads' HO300.out).2.1); (case side3 => repeat (first | exact (Kd.R_reads' HO309.out).2.2 | (with_reducible refine Kd.C_alloc ?_ _) | (with_reducible refine Kd.C_drewN ?_ _) | (with_reducible refine Kd.C_drew ?_))); (case side4 => exact (Kd.R_reads' HO309.out).2.1); rintro e w' ⟨rfl, ⟨nd, rfl⟩⟩))
                      go_meet
                      case rel => exact ⟨_, (true), (by first | rfl | (simp; done) | (simp [*]; done)), H', ⟨by have := HJ3.out; first | omega | exact Nat.le_refl _⟩, ⟨by (with_reducible repeat (first | apply Kd.R_alloc | apply Kd.R_drewN | apply Kd.R_drew)); exact Kd.R_mono HO291.out (fun _ hk => trivial)⟩, ⟨by (with_reducible repeat (first | apply Kd.R_alloc | apply Kd.R_drewN | apply Kd.R_drew)); exact HO295.out⟩, ⟨by repeat (first | (with_reducible first | exact HB.out | apply below_alloc | apply pw_below_drewN | apply below_drew1) | exact HB.out)⟩⟩
              · replace c27 := Bool.eq_false_iff.mpr c27
                subst c27
                have H1 : (sobriquetlaw03_OidExact.j1 kj3 l0 t289 t292 t293 t296 t297 true) = some r := by rw [if_neg (show ¬ (false = true) by decide)] at H; exact H
                clear H
                have H := H1
                clear H1
                have H' := Aside0.mk H
                clear H
                obtain ⟨Ao57, co57, eo57⟩ := Kd.R_slice HO300.out
                subst eo57
                obtain ⟨Ao58, co58, eo58⟩ := Kd.R_slice HO309.out
                subst eo58
                go_wp2_with (first | (go_at_call 11; (with_reducible refine (sobriquetkeep_Ints.calls kj3 _ _ t298 _ _ t306 false _ ?side1 ?side2 ?side3 ?side4 A26.out).mono ?_); (case side1 => repeat (first | exact (Kd.R_reads' HO300.out).2.2 | (with_reducible refine Kd.C_alloc ?_ _) | (with_reducible refine Kd.C_drewN ?_ _) | (with_reducible refine Kd.C_drew ?_))); (case side2 => exact (Kd.R_reads' HO300.out).2.1); (case side3 => repeat (first | exact (Kd.R_reads' HO309.out).2.2 | (with_reducible refine Kd.C_alloc ?_ _) | (with_reducible refine Kd.C_drewN ?_ _) | (with_reducible refine Kd.C_drew ?_))); (case side4 => exact (Kd.R_reads' HO309.out).2.1); rintro e w' ⟨rfl, ⟨nd, rfl⟩⟩))
                go_meet
                case rel => exact ⟨_, (true), (by first | rfl | (simp; done) | (simp [*]; done)), H', ⟨by have := HJ3.out; first | omega | exact Nat.le_refl _⟩, ⟨by (with_reducible repeat (first | apply Kd.R_alloc | apply Kd.R_drewN | apply Kd.R_drew)); exact Kd.R_mono HO291.out (fun _ hk => trivial)⟩, ⟨by (with_reducible repeat (first | apply Kd.R_alloc | apply Kd.R_drewN | apply Kd.R_drew)); exact HO295.out⟩, ⟨by repeat (first | (with_reducible first | exact HB.out | apply below_alloc | apply pw_below_drewN | apply below_drew1) | exact HB.out)⟩⟩
            · replace c25 := Bool.eq_false_iff.mpr c25
              subst c25
              have H1 : (if t301 = 8 then ((sobriquetkeep_Ints.f kj3 t298 t306).bind fun t319 => (if t319 = true then (if ((t303 == 0) != t311) = true then (sobriquetlaw03_OidExact.j1 kj3 l0 t289 t292 t293 t296 t297 true) else (if t311 = true then ((sobriquetkeep_Ints.f kj3 t302 t310).bind fun t320 => (if t320 = true then ((sobriquetkeep_Ints.f kj3 t289 l0).bind fun t321 => (sobriquetlaw03_OidExact.j1 kj3 l0 t289 t292 t293 t296 t297 (!t321))) else (sobriquetlaw03_OidExact.j1 kj3 l0 t289 t292 t293 t296 t297 true))) else (if t303 = 8 then ((sobriquetkeep_Ints.f kj3 t302 t310).bind fun t322 => (if t322 = true then ((sobriquetkeep_Ints.f kj3 t289 l0).bind fun t323 => (sobriquetlaw03_OidExact.j1 kj3 l0 t289 t292 t293 t296 t297 (!t323))) else (sobriquetlaw03_OidExact.j1 kj3 l0 t289 t292 t293 t296 t297 true))) else (sobriquetlaw03_OidExact.j1 kj3 l0 t289 t292 t293 t296 t297 true)))) else (sobriquetlaw03_OidExact.j1 kj3 l0 t289 t292 t293 t296 t297 true))) else (sobriquetlaw03_OidExact.j1 kj3 l0 t289 t292 t293 t296 t297 true)) = some r := by rw [if_neg (show ¬ (false = true) by decide)] at H; exact H
              clear H
              have H := H1
              clear H1
              by_cases c59 : t301 = 8
              · rw [if_pos c59] at H
                have c59b0 : (t301 == 8) = true := beq_iff_eq.mpr c59
                have c59b1 : (t301 != 8) = false := bne_eq_false_iff_eq.mpr c59
                clear c59
                replace H := Option.bind_eq_some_iff.mp H
                obtain ⟨t319, A600, H⟩ := H
                replace H : (if t319 = true then (if ((t303 == 0) != t311) = true then (sobriquetlaw03_OidExact.j1 kj3 l0 t289 t292 t293 t296 t297 true) else (if t311 = true then ((sobriquetkeep_Ints.f kj3 t302 t310).bind fun t320 => (if t320 = true then ((sobriquetkeep_Ints.f kj3 t289 l0).bind fun t321 => (sobriquetlaw03_OidExact.j1 kj3 l0 t289 t292 t293 t296 t297 (!t321))) else (sobriquetlaw03_OidExact.j1 kj3 l0 t289 t292 t293 t296 t297 true))) else (if t303 = 8 then ((sobriquetkeep_Ints.f kj3 t302 t310).bind fun t322 => (if t322 = true then ((sobriquetkeep_Ints.f kj3 t289 l0).bind fun t323 => (sobriquetlaw03_OidExact.j1 kj3 l0 t289 t292 t293 t296 t297 (!t323))) else (sobriquetlaw03_OidExact.j1 kj3 l0 t289 t292 t293 t296 t297 true))) else (sobriquetlaw03_OidExact.j1 kj3 l0 t289 t292 t293 t296 t297 true)))) else (sobriquetlaw03_OidExact.j1 kj3 l0 t289 t292 t293 t296 t297 true)) = some r := H
                have A60 := Aside0.mk A600
                clear A600
                by_cases c61 : t319 = true
                · subst c61
                  have H1 : (if ((t303 == 0) != t311) = true then (sobriquetlaw03_OidExact.j1 kj3 l0 t289 t292 t293 t296 t297 true) else (if t311 = true then ((sobriquetkeep_Ints.f kj3 t302 t310).bind fun t320 => (if t320 = true then ((sobriquetkeep_Ints.f kj3 t289 l0).bind fun t321 => (sobriquetlaw03_OidExact.j1 kj3 l0 t289 t292 t293 t296 t297 (!t321))) else (sobriquetlaw03_OidExact.j1 kj3 l0 t289 t292 t293 t296 t297 true))) else (if t303 = 8 then ((sobriquetkeep_Ints.f kj3 t302 t310).bind fun t322 => (if t322 = true then ((sobriquetkeep_Ints.f kj3 t289 l0).bind fun t323 => (sobriquetlaw03_OidExact.j1 kj3 l0 t289 t292 t293 t296 t297 (!t323))) else (sobriquetlaw03_OidExact.j1 kj3 l0 t289 t292 t293 t296 t297 true))) else (sobriquetlaw03_OidExact.j1 kj3 l0 t289 t292 t293 t296 t297 true)))) = some r := by rw [if_pos rfl] at H; exact H
                  clear H
                  have H := H1
                  clear H1
                  by_cases c62 : ((t303 == 0) != t311) = true
                  · rw [if_pos c62] at H
                    have c62b0 : ((t303 == 0) != t311) = true := c62
                    (try (have c62b1 : decide ((t303 == 0) = t311) = false := by simpa using c62))
                    (try (have c62b2 : ((t303 == 0) == t311) = false := by simpa using c62))
                    (try (have c62b3 : ¬ ((t303 == 0) = t311) := by simpa using c62))
                    clear c62
                    have H' := Aside0.mk H
                    clear H
                    obtain ⟨Ao63, co63, eo63⟩ := Kd.R_slice HO300.out
                    subst eo63
                    obtain ⟨Ao64, co64, eo64⟩ := Kd.R_slice HO309.out
                    subst eo64
                    go_wp2_with (first | (go_at_call 11; (with_reducible refine (sobriquetkeep_Ints.calls kj3 _ _ t298 _ _ t306 true _ ?side1 ?side2 ?side3 ?side4 A60.out).mono ?_); (case side1 => repeat (first | exact (Kd.R_reads' HO300.out).2.2 | (with_reducible refine Kd.C_alloc ?_ _) | (with_reducible refine Kd.C_drewN ?_ _) | (with_reducible refine Kd.C_drew ?_))); (case side2 => exact (Kd.R_reads' HO300.out).2.1); (case side3 => repeat (first | exact (Kd.R_reads' HO309.out).2.2 | (with_reducible refine Kd.C_alloc ?_ _) | (with_reducible refine Kd.C_drewN ?_ _) | (with_reducible refine Kd.C_drew ?_))); (case side4 => exact (Kd.R_reads' HO309.out).2.1); rintro e w' ⟨rfl, ⟨nd, rfl⟩⟩))
                    go_meet
                    case rel => exact ⟨_, (true), (by first | rfl | (simp; done) | (simp [*]; done)), H', ⟨by have := HJ3.out; first | omega | exact Nat.le_refl _⟩, ⟨by (with_reducible repeat (first | apply Kd.R_alloc | apply Kd.R_drewN | apply Kd.R_drew)); exact Kd.R_mono HO291.out (fun _ hk => trivial)⟩, ⟨by (with_reducible repeat (first | apply Kd.R_alloc | apply Kd.R_drewN | apply Kd.R_drew)); exact HO295.out⟩, ⟨by repeat (first | (with_reducible first | exact HB.out | apply below_alloc | apply pw_below_drewN | apply below_drew1) | exact HB.out)⟩⟩
                  · rw [if_neg c62] at H
                    have c62b0 : ((t303 == 0) != t311) = false := by simpa using c62
                    (try (have c62b1 : decide ((t303 == 0) = t311) = true := by simpa using c62))
                    (try (have c62b2 : ((t303 == 0) == t311) = true := by simpa using c62))
                    clear c62
                    by_cases c65 : t311 = true
                    · subst c65
                      have H1 : ((sobriquetkeep_Ints.f kj3 t302 t310).bind fun t320 => (if t320 = true then ((sobriquetkeep_Ints.f kj3 t289 l0).bind fun t321 => (sobriquetlaw03_OidExact.j1 kj3 l0 t289 t292 t293 t296 t297 (!t321))) else (sobriquetlaw03_OidExact.j1 kj3 l0 t289 t292 t293 t296 t297 true))) = some r := by rw [if_pos rfl] at H; exact H
                      clear H
                      have H := H1
                      clear H1
                      replace H := Option.bind_eq_some_iff.mp H
                      obtain ⟨t320, A660, H⟩ := H
                      replace H : (if t320 = true then ((sobriquetkeep_Ints.f kj3 t289 l0).bind fun t321 => (sobriquetlaw03_OidExact.j1 kj3 l0 t289 t292 t293 t296 t297 (!t321))) else (sobriquetlaw03_OidExact.j1 kj3 l0 t289 t292 t293 t296 t297 true)) = some r := H
                      have A66 := Aside0.mk A660
                      clear A660
                      by_cases c67 : t320 = true
                      · subst c67
                        have H1 : ((sobriquetkeep_Ints.f kj3 t289 l0).bind fun t321 => (sobriquetlaw03_OidExact.j1 kj3 l0 t289 t292 t293 t296 t297 (!t321))) = some r := by rw [if_pos rfl] at H; exact H
                        clear H
                        have H := H1
                        clear H1
                        replace H := Option.bind_eq_some_iff.mp H
                        obtain ⟨t321, A680, H⟩ := H
                        replace H : (sobriquetlaw03_OidExact.j1 kj3 l0 t289 t292 t293 t296 t297 (!t321)) = some r := H
                        have A68 := Aside0.mk A680
                        clear A680
                        have H' := Aside0.mk H
                        clear H
                        obtain ⟨Ao69, co69, eo69⟩ := Kd.R_slice HO300.out
                        subst eo69
                        obtain ⟨Ao70, co70, eo70⟩ := Kd.R_slice HO309.out
                        subst eo70
                        go_wp2_with (first | (go_at_call 11; (with_reducible refine (sobriquetkeep_Ints.calls kj3 _ _ t298 _ _ t306 true _ ?side1 ?side2 ?side3 ?side4 A60.out).mono ?_); (case side1 => repeat (first | exact (Kd.R_reads' HO300.out).2.2 | (with_reducible refine Kd.C_alloc ?_ _) | (with_reducible refine Kd.C_drewN ?_ _) | (with_reducible refine Kd.C_drew ?_))); (case side2 => exact (Kd.R_reads' HO300.out).2.1); (case side3 => repeat (first | exact (Kd.R_reads' HO309.out).2.2 | (with_reducible refine Kd.C_alloc ?_ _) | (with_reducible refine Kd.C_drewN ?_ _) | (with_reducible refine Kd.C_drew ?_))); (case side4 => exact (Kd.R_reads' HO309.out).2.1); rintro e w' ⟨rfl, ⟨nd, rfl⟩⟩; obtain ⟨Ao71, co71, eo71⟩ := Kd.R_slice HO305.out; subst eo71; obtain ⟨Ao72, co72, eo72⟩ := Kd.R_slice HO313.out; subst eo72) | (go_at_call 11; (with_reducible refine (sobriquetkeep_Ints.calls kj3 _ _ t302 _ _ t310 true _ ?side1 ?side2 ?side3 ?side4 A66.out).mono ?_); (case side1 => repeat (first | exact (Kd.R_reads' HO305.out).2.2 | (with_reducible refine Kd.C_alloc ?_ _) | (with_reducible refine Kd.C_drewN ?_ _) | (with_reducible refine Kd.C_drew ?_))); (case side2 => exact (Kd.R_reads' HO305.out).2.1); (case side3 => repeat (first | exact (Kd.R_reads' HO313.out).2.2 | (with_reducible refine Kd.C_alloc ?_ _) | (with_reducible refine Kd.C_drewN ?_ _) | (with_reducible refine Kd.C_drew ?_))); (case side4 => exact (Kd.R_reads' HO313.out).2.1); rintro e w' ⟨rfl, ⟨nd, rfl⟩⟩) | (go_at_call 11; (with_reducible refine (sobriquetkeep_Ints.calls kj3 _ _ t289 _ _ l0 t321 _ ?side1 ?side2 ?side3 ?side4 A68.out).mono ?_); (case side1 => repeat (first | exact (Kd.R_reads' HO291.out).2.2 | (with_reducible refine Kd.C_alloc ?_ _) | (with_reducible refine Kd.C_drewN ?_ _) | (with_reducible refine Kd.C_drew ?_))); (case side2 => exact (Kd.R_reads' HO291.out).2.1); (case side3 => repeat (first | exact (Kd.C_below HR0.out (by repeat (first | (with_reducible first | exact HB.out | apply below_alloc | apply pw_below_drewN | apply below_drew1) | exact HB.out))) | (with_reducible refine Kd.C_alloc ?_ _) | (with_reducible refine Kd.C_drewN ?_ _) | (with_reducible refine Kd.C_drew ?_))); (case side4 => exact HC0.out); rintro e w' ⟨rfl, ⟨nd, rfl⟩⟩))
                        go_meet
                        case rel => exact ⟨_, (!t321), (by first | rfl | (simp; done) | (simp [*]; done)), H', ⟨by have := HJ3.out; first | omega | exact Nat.le_refl _⟩, ⟨by (with_reducible repeat (first | apply Kd.R_alloc | apply Kd.R_drewN | apply Kd.R_drew)); exact Kd.R_mono HO291.out (fun _ hk => trivial)⟩, ⟨by (with_reducible repeat (first | apply Kd.R_alloc | apply Kd.R_drewN | apply Kd.R_drew)); exact HO295.out⟩, ⟨by repeat (first | (with_reducible first | exact HB.out | apply below_alloc | apply pw_below_drewN | apply below_drew1) | exact HB.out)⟩⟩
                      · replace c67 := Bool.eq_false_iff.mpr c67
                        subst c67
                        have H1 : (sobriquetlaw03_OidExact.j1 kj3 l0 t289 t292 t293 t296 t297 true) = some r := by rw [if_neg (show ¬ (false = true) by decide)] at H; exact H
                        clear H
                        have H := H1
                        clear H1
                        have H' := Aside0.mk H
                        clear H
                        obtain ⟨Ao73, co73, eo73⟩ := Kd.R_slice HO300.out
                        subst eo73
                        obtain ⟨Ao74, co74, eo74⟩ := Kd.R_slice HO309.out
                        subst eo74
                        go_wp2_with (first | (go_at_call 11; (with_reducible refine (sobriquetkeep_Ints.calls kj3 _ _ t298 _ _ t306 true _ ?side1 ?side2 ?side3 ?side4 A60.out).mono ?_); (case side1 => repeat (first | exact (Kd.R_reads' HO300.out).2.2 | (with_reducible refine Kd.C_alloc ?_ _) | (with_reducible refine Kd.C_drewN ?_ _) | (with_reducible refine Kd.C_drew ?_))); (case side2 => exact (Kd.R_reads' HO300.out).2.1); (case side3 => repeat (first | exact (Kd.R_reads' HO309.out).2.2 | (with_reducible refine Kd.C_alloc ?_ _) | (with_reducible refine Kd.C_drewN ?_ _) | (with_reducible refine Kd.C_drew ?_))); (case side4 => exact (Kd.R_reads' HO309.out).2.1); rintro e w' ⟨rfl, ⟨nd, rfl⟩⟩; obtain ⟨Ao75, co75, eo75⟩ := Kd.R_slice HO305.out; subst eo75; obtain ⟨Ao76, co76, eo76⟩ := Kd.R_slice HO313.out; subst eo76) | (go_at_call 11; (with_reducible refine (sobriquetkeep_Ints.calls kj3 _ _ t302 _ _ t310 false _ ?side1 ?side2 ?side3 ?side4 A66.out).mono ?_); (case side1 => repeat (first | exact (Kd.R_reads' HO305.out).2.2 | (with_reducible refine Kd.C_alloc ?_ _) | (with_reducible refine Kd.C_drewN ?_ _) | (with_reducible refine Kd.C_drew ?_))); (case side2 => exact (Kd.R_reads' HO305.out).2.1); (case side3 => repeat (first | exact (Kd.R_reads' HO313.out).2.2 | (with_reducible refine Kd.C_alloc ?_ _) | (with_reducible refine Kd.C_drewN ?_ _) | (with_reducible refine Kd.C_drew ?_))); (case side4 => exact (Kd.R_reads' HO313.out).2.1); rintro e w' ⟨rfl, ⟨nd, rfl⟩⟩))
                        go_meet
                        case rel => exact ⟨_, (true), (by first | rfl | (simp; done) | (simp [*]; done)), H', ⟨by have := HJ3.out; first | omega | exact Nat.le_refl _⟩, ⟨by (with_reducible repeat (first | apply Kd.R_alloc | apply Kd.R_drewN | apply Kd.R_drew)); exact Kd.R_mono HO291.out (fun _ hk => trivial)⟩, ⟨by (with_reducible repeat (first | apply Kd.R_alloc | apply Kd.R_drewN | apply Kd.R_drew)); exact HO295.out⟩, ⟨by repeat (first | (with_reducible first | exact HB.out | apply below_alloc | apply pw_below_drewN | apply below_drew1) | exact HB.out)⟩⟩
                    · replace c65 := Bool.eq_false_iff.mpr c65
                      subst c65
                      have H1 : (if t303 = 8 then ((sobriquetkeep_Ints.f kj3 t302 t310).bind fun t322 => (if t322 = true then ((sobriquetkeep_Ints.f kj3 t289 l0).bind fun t323 => (sobriquetlaw03_OidExact.j1 kj3 l0 t289 t292 t293 t296 t297 (!t323))) else (sobriquetlaw03_OidExact.j1 kj3 l0 t289 t292 t293 t296 t297 true))) else (sobriquetlaw03_OidExact.j1 kj3 l0 t289 t292 t293 t296 t297 true)) = some r := by rw [if_neg (show ¬ (false = true) by decide)] at H; exact H
                      clear H
                      have H := H1
                      clear H1
                      by_cases c77 : t303 = 8
                      · rw [if_pos c77] at H
                        have c77b0 : (t303 == 8) = true := beq_iff_eq.mpr c77
                        have c77b1 : (t303 != 8) = false := bne_eq_false_iff_eq.mpr c77
                        clear c77
                        replace H := Option.bind_eq_some_iff.mp H
                        obtain ⟨t322, A780, H⟩ := H
                        replace H : (if t322 = true then ((sobriquetkeep_Ints.f kj3 t289 l0).bind fun t323 => (sobriquetlaw03_OidExact.j1 kj3 l0 t289 t292 t293 t296 t297 (!t323))) else (sobriquetlaw03_OidExact.j1 kj3 l0 t289 t292 t293 t296 t297 true)) = some r := H
                        have A78 := Aside0.mk A780
                        clear A780
                        by_cases c79 : t322 = true
                        · subst c79
                          have H1 : ((sobriquetkeep_Ints.f kj3 t289 l0).bind fun t323 => (sobriquetlaw03_OidExact.j1 kj3 l0 t289 t292 t293 t296 t297 (!t323))) = some r := by rw [if_pos rfl] at H; exact H
                          clear H
                          have H := H1
                          clear H1
                          replace H := Option.bind_eq_some_iff.mp H
                          obtain ⟨t323, A800, H⟩ := H
                          replace H : (sobriquetlaw03_OidExact.j1 kj3 l0 t289 t292 t293 t296 t297 (!t323)) = some r := H
                          have A80 := Aside0.mk A800
                          clear A800
                          have H' := Aside0.mk H
                          clear H
                          obtain ⟨Ao81, co81, eo81⟩ := Kd.R_slice HO300.out
                          subst eo81
                          obtain ⟨Ao82, co82, eo82⟩ := Kd.R_slice HO309.out
                          subst eo82
                          go_wp2_with (first | (go_at_call 11; (with_reducible refine (sobriquetkeep_Ints.calls kj3 _ _ t298 _ _ t306 true _ ?side1 ?side2 ?side3 ?side4 A60.out).mono ?_); (case side1 => repeat (first | exact (Kd.R_reads' HO300.out).2.2 | (with_reducible refine Kd.C_alloc ?_ _) | (with_reducible refine Kd.C_drewN ?_ _) | (with_reducible refine Kd.C_drew ?_))); (case side2 => exact (Kd.R_reads' HO300.out).2.1); (case side3 => repeat (first | exact (Kd.R_reads' HO309.out).2.2 | (with_reducible refine Kd.C_alloc ?_ _) | (with_reducible refine Kd.C_drewN ?_ _) | (with_reducible refine Kd.C_drew ?_))); (case side4 => exact (Kd.R_reads' HO309.out).2.1); rintro e w' ⟨rfl, ⟨nd, rfl⟩⟩; obtain ⟨Ao83, co83, eo83⟩ := Kd.R_slice HO305.out; subst eo83; obtain ⟨Ao84, co84, eo84⟩ := Kd.R_slice HO313.out; subst eo84) | (go_at_call 11; (with_reducible refine (sobriquetkeep_Ints.calls kj3 _ _ t302 _ _ t310 true _ ?side1 ?side2 ?side3 ?side4 A78.out).mono ?_); (case side1 => repeat (first | exact (Kd.R_reads' HO305.out).2.2 | (with_reducible refine Kd.C_alloc ?_ _) | (with_reducible refine Kd.C_drewN ?_ _) | (with_reducible refine Kd.C_drew ?_))); (case side2 => exact (Kd.R_reads' HO305.out).2.1); (case side3 => repeat (first | exact (Kd.R_reads' HO313.out).2.2 | (with_reducible refine Kd.C_alloc ?_ _) | (with_reducible refine Kd.C_drewN ?_ _) | (with_reducible refine Kd.C_drew ?_))); (case side4 => exact (Kd.R_reads' HO313.out).2.1); rintro e w' ⟨rfl, ⟨nd, rfl⟩⟩) | (go_at_call 11; (with_reducible refine (sobriquetkeep_Ints.calls kj3 _ _ t289 _ _ l0 t323 _ ?side1 ?side2 ?side3 ?side4 A80.out).mono ?_); (case side1 => repeat (first | exact (Kd.R_reads' HO291.out).2.2 | (with_reducible refine Kd.C_alloc ?_ _) | (with_reducible refine Kd.C_drewN ?_ _) | (with_reducible refine Kd.C_drew ?_))); (case side2 => exact (Kd.R_reads' HO291.out).2.1); (case side3 => repeat (first | exact (Kd.C_below HR0.out (by repeat (first | (with_reducible first | exact HB.out | apply below_alloc | apply pw_below_drewN | apply below_drew1) | exact HB.out))) | (with_reducible refine Kd.C_alloc ?_ _) | (with_reducible refine Kd.C_drewN ?_ _) | (with_reducible refine Kd.C_drew ?_))); (case side4 => exact HC0.out); rintro e w' ⟨rfl, ⟨nd, rfl⟩⟩))
                          go_meet
                          case rel => exact ⟨_, (!t323), (by first | rfl | (simp; done) | (simp [*]; done)), H', ⟨by have := HJ3.out; first | omega | exact Nat.le_refl _⟩, ⟨by (with_reducible repeat (first | apply Kd.R_alloc | apply Kd.R_drewN | apply Kd.R_drew)); exact Kd.R_mono HO291.out (fun _ hk => trivial)⟩, ⟨by (with_reducible repeat (first | apply Kd.R_alloc | apply Kd.R_drewN | apply Kd.R_drew)); exact HO295.out⟩, ⟨by repeat (first | (with_reducible first | exact HB.out | apply below_alloc | apply pw_below_drewN | apply below_drew1) | exact HB.out)⟩⟩
                        · replace c79 := Bool.eq_false_iff.mpr c79
                          subst c79
                          have H1 : (sobriquetlaw03_OidExact.j1 kj3 l0 t289 t292 t293 t296 t297 true) = some r := by rw [if_neg (show ¬ (false = true) by decide)] at H; exact H
                          clear H
                          have H := H1
                          clear H1
                          have H' := Aside0.mk H
                          clear H
                          obtain ⟨Ao85, co85, eo85⟩ := Kd.R_slice HO300.out
                          subst eo85
                          obtain ⟨Ao86, co86, eo86⟩ := Kd.R_slice HO309.out
                          subst eo86
                          go_wp2_with (first | (go_at_call 11; (with_reducible refine (sobriquetkeep_Ints.calls kj3 _ _ t298 _ _ t306 true _ ?side1 ?side2 ?side3 ?side4 A60.out).mono ?_); (case side1 => repeat (first | exact (Kd.R_reads' HO300.out).2.2 | (with_reducible refine Kd.C_alloc ?_ _) | (with_reducible refine Kd.C_drewN ?_ _) | (with_reducible refine Kd.C_drew ?_))); (case side2 => exact (Kd.R_reads' HO300.out).2.1); (case side3 => repeat (first | exact (Kd.R_reads' HO309.out).2.2 | (with_reducible refine Kd.C_alloc ?_ _) | (with_reducible refine Kd.C_drewN ?_ _) | (with_reducible refine Kd.C_drew ?_))); (case side4 => exact (Kd.R_reads' HO309.out).2.1); rintro e w' ⟨rfl, ⟨nd, rfl⟩⟩; obtain ⟨Ao87, co87, eo87⟩ := Kd.R_slice HO305.out; subst eo87; obtain ⟨Ao88, co88, eo88⟩ := Kd.R_slice HO313.out; subst eo88) | (go_at_call 11; (with_reducible refine (sobriquetkeep_Ints.calls kj3 _ _ t302 _ _ t310 false _ ?side1 ?side2 ?side3 ?side4 A78.out).mono ?_); (case side1 => repeat (first | exact (Kd.R_reads' HO305.out).2.2 | (with_reducible refine Kd.C_alloc ?_ _) | (with_reducible refine Kd.C_drewN ?_ _) | (with_reducible refine Kd.C_drew ?_))); (case side2 => exact (Kd.R_reads' HO305.out).2.1); (case side3 => repeat (first | exact (Kd.R_reads' HO313.out).2.2 | (with_reducible refine Kd.C_alloc ?_ _) | (with_reducible refine Kd.C_drewN ?_ _) | (with_reducible refine Kd.C_drew ?_))); (case side4 => exact (Kd.R_reads' HO313.out).2.1); rintro e w' ⟨rfl, ⟨nd, rfl⟩⟩))
                          go_meet
                          case rel => exact ⟨_, (true), (by first | rfl | (simp; done) | (simp [*]; done)), H', ⟨by have := HJ3.out; first | omega | exact Nat.le_refl _⟩, ⟨by (with_reducible repeat (first | apply Kd.R_alloc | apply Kd.R_drewN | apply Kd.R_drew)); exact Kd.R_mono HO291.out (fun _ hk => trivial)⟩, ⟨by (with_reducible repeat (first | apply Kd.R_alloc | apply Kd.R_drewN | apply Kd.R_drew)); exact HO295.out⟩, ⟨by repeat (first | (with_reducible first | exact HB.out | apply below_alloc | apply pw_below_drewN | apply below_drew1) | exact HB.out)⟩⟩
                      · rw [if_neg c77] at H
                        have c77b0 : (t303 == 8) = false := beq_eq_false_iff_ne.mpr c77
                        have c77b1 : (t303 != 8) = true := bne_iff_ne.mpr c77
                        have H' := Aside0.mk H
                        clear H
                        obtain ⟨Ao89, co89, eo89⟩ := Kd.R_slice HO300.out
                        subst eo89
                        obtain ⟨Ao90, co90, eo90⟩ := Kd.R_slice HO309.out
                        subst eo90
                        go_wp2_with (first | (go_at_call 11; (with_reducible refine (sobriquetkeep_Ints.calls kj3 _ _ t298 _ _ t306 true _ ?side1 ?side2 ?side3 ?side4 A60.out).mono ?_); (case side1 => repeat (first | exact (Kd.R_reads' HO300.out).2.2 | (with_reducible refine Kd.C_alloc ?_ _) | (with_reducible refine Kd.C_drewN ?_ _) | (with_reducible refine Kd.C_drew ?_))); (case side2 => exact (Kd.R_reads' HO300.out).2.1); (case side3 => repeat (first | exact (Kd.R_reads' HO309.out).2.2 | (with_reducible refine Kd.C_alloc ?_ _) | (with_reducible refine Kd.C_drewN ?_ _) | (with_reducible refine Kd.C_drew ?_))); (case side4 => exact (Kd.R_reads' HO309.out).2.1); rintro e w' ⟨rfl, ⟨nd, rfl⟩⟩))
                        go_meet
                        case rel => exact ⟨_, (true), (by first | rfl | (simp; done) | (simp [*]; done)), H', ⟨by have := HJ3.out; first | omega | exact Nat.le_refl _⟩, ⟨by (with_reducible repeat (first | apply Kd.R_alloc | apply Kd.R_drewN | apply Kd.R_drew)); exact Kd.R_mono HO291.out (fun _ hk => trivial)⟩, ⟨by (with_reducible repeat (first | apply Kd.R_alloc | apply Kd.R_drewN | apply Kd.R_drew)); exact HO295.out⟩, ⟨by repeat (first | (with_reducible first | exact HB.out | apply below_alloc | apply pw_below_drewN | apply below_drew1) | exact HB.out)⟩⟩
                · replace c61 := Bool.eq_false_iff.mpr c61
                  subst c61
                  have H1 : (sobriquetlaw03_OidExact.j1 kj3 l0 t289 t292 t293 t296 t297 true) = some r := by rw [if_neg (show ¬ (false = true) by decide)] at H; exact H
                  clear H
                  have H := H1
                  clear H1
                  have H' := Aside0.mk H
                  clear H
                  obtain ⟨Ao91, co91, eo91⟩ := Kd.R_slice HO300.out
                  subst eo91
                  obtain ⟨Ao92, co92, eo92⟩ := Kd.R_slice HO309.out
                  subst eo92
                  go_wp2_with (first | (go_at_call 11; (with_reducible refine (sobriquetkeep_Ints.calls kj3 _ _ t298 _ _ t306 false _ ?side1 ?side2 ?side3 ?side4 A60.out).mono ?_); (case side1 => repeat (first | exact (Kd.R_reads' HO300.out).2.2 | (with_reducible refine Kd.C_alloc ?_ _) | (with_reducible refine Kd.C_drewN ?_ _) | (with_reducible refine Kd.C_drew ?_))); (case side2 => exact (Kd.R_reads' HO300.out).2.1); (case side3 => repeat (first | exact (Kd.R_reads' HO309.out).2.2 | (with_reducible refine Kd.C_alloc ?_ _) | (with_reducible refine Kd.C_drewN ?_ _) | (with_reducible refine Kd.C_drew ?_))); (case side4 => exact (Kd.R_reads' HO309.out).2.1); rintro e w' ⟨rfl, ⟨nd, rfl⟩⟩))
                  go_meet
                  case rel => exact ⟨_, (true), (by first | rfl | (simp; done) | (simp [*]; done)), H', ⟨by have := HJ3.out; first | omega | exact Nat.le_refl _⟩, ⟨by (with_reducible repeat (first | apply Kd.R_alloc | apply Kd.R_drewN | apply Kd.R_drew)); exact Kd.R_mono HO291.out (fun _ hk => trivial)⟩, ⟨by (with_reducible repeat (first | apply Kd.R_alloc | apply Kd.R_drewN | apply Kd.R_drew)); exact HO295.out⟩, ⟨by repeat (first | (with_reducible first | exact HB.out | apply below_alloc | apply pw_below_drewN | apply below_drew1) | exact HB.out)⟩⟩
              · rw [if_neg c59] at H
                have c59b0 : (t301 == 8) = false := beq_eq_false_iff_ne.mpr c59
                have c59b1 : (t301 != 8) = true := bne_iff_ne.mpr c59
                have H' := Aside0.mk H
                clear H
                go_wp2
                go_meet
                case rel => exact ⟨_, (true), (by first | rfl | (simp; done) | (simp [*]; done)), H', ⟨by have := HJ3.out; first | omega | exact Nat.le_refl _⟩, ⟨by (with_reducible repeat (first | apply Kd.R_alloc | apply Kd.R_drewN | apply Kd.R_drew)); exact Kd.R_mono HO291.out (fun _ hk => trivial)⟩, ⟨by (with_reducible repeat (first | apply Kd.R_alloc | apply Kd.R_drewN | apply Kd.R_drew)); exact HO295.out⟩, ⟨by repeat (first | (with_reducible first | exact HB.out | apply below_alloc | apply pw_below_drewN | apply below_drew1) | exact HB.out)⟩⟩
        case rest =>
          clear HC15
          try clear c1
          try clear c2
          try clear p2
          try clear c3
          try clear c4
          try clear c5
          try clear c5b0
          try clear c5b1
          try clear c6
          try clear c6b0
          try clear c6b1
          try clear c7
          try clear c9
          try clear c10
          try clear c12
          try clear c13
          try clear c14
          try clear c15
          try clear c16
          try clear c24
          try clear c24b0
          try clear c24b1
          try clear c24b2
          try clear c25
          try clear c27
          try clear c28
          try clear c28b0
          try clear c28b1
          try clear c28b2
          try clear c31
          try clear c33
          try clear c43
          try clear c43b0
          try clear c43b1
          try clear c45
          try clear c59
          try clear c59b0
          try clear c59b1
          try clear c61
          try clear c62
          try clear c62b0
          try clear c62b1
          try clear c62b2
          try clear c65
          try clear c67
          try clear c77
          try clear c77b0
          try clear c77b1
          try clear c79
          try clear p2
          obtain ⟨kq, x108_14, rfl, HA, HJ14, HO_7, HO_8, HB⟩ := hcut
          cases kq with
          | zero => exact absurd HA.out (by simp [sobriquetlaw03_OidExact.j1])
          | succ kj14 =>
            have H := HA.out
            clear HA
            simp only [sobriquetlaw03_OidExact.j1] at H
            by_cases c93 : x108_14 = true
            · subst c93
              have H1 : (some false) = some r := by rw [if_pos rfl] at H; exact H
              clear H
              have H := H1
              clear H1
              exact absurd ((Option.some.inj H).trans hrt.out) (by decide)
            · replace c93 := Bool.eq_false_iff.mpr c93
              subst c93
              have H1 : ((sobriquetref01_Oid.f kj14 l0).bind fun t324 => (if t324 = true then ((oid_Check.f t289).bind fun t327 => (if t327 = 0 then (if t293 = 0 then (if t297 = 0 then ((sobriquetref01_Content.f kj14 l0).bind fun t328 => ((sobriquetkeep_Bytes.f kj14 t292 t328).bind fun t331 => (if t331 = true then ((sobriquetref01_OidText.f kj14 l0).bind fun t332 => (if t296.toList = t332.toList then ((sobriquetlaw03_wakes.f kj14).bind fun t333 => (some t333)) else (some false))) else (some false)))) else (some false)) else (some false)) else (some false))) else ((oid_Check.f t289).bind fun t325 => (if t325 = 8 then (if t293 = 8 then (if t297 = 8 then (if (wrap64 ((t292.length : Int) + (t296.size : Int))) = 0 then ((sobriquetlaw03_wakes.f kj14).bind fun t326 => (some t326)) else (some false)) else (some false)) else (some false)) else (some false))))) = some r := by rw [if_neg (show ¬ (false = true) by decide)] at H; exact H
              clear H
              have H := H1
              clear H1
              replace H := Option.bind_eq_some_iff.mp H
              obtain ⟨t324, A940, H⟩ := H
              replace H : (if t324 = true then ((oid_Check.f t289).bind fun t327 => (if t327 = 0 then (if t293 = 0 then (if t297 = 0 then ((sobriquetref01_Content.f kj14 l0).bind fun t328 => ((sobriquetkeep_Bytes.f kj14 t292 t328).bind fun t331 => (if t331 = true then ((sobriquetref01_OidText.f kj14 l0).bind fun t332 => (if t296.toList = t332.toList then ((sobriquetlaw03_wakes.f kj14).bind fun t333 => (some t333)) else (some false))) else (some false)))) else (some false)) else (some false)) else (some false))) else ((oid_Check.f t289).bind fun t325 => (if t325 = 8 then (if t293 = 8 then (if t297 = 8 then (if (wrap64 ((t292.length : Int) + (t296.size : Int))) = 0 then ((sobriquetlaw03_wakes.f kj14).bind fun t326 => (some t326)) else (some false)) else (some false)) else (some false)) else (some false)))) = some r := H
              have A94 := Aside0.mk A940
              clear A940
              by_cases c95 : t324 = true
              · subst c95
                have H1 : ((oid_Check.f t289).bind fun t327 => (if t327 = 0 then (if t293 = 0 then (if t297 = 0 then ((sobriquetref01_Content.f kj14 l0).bind fun t328 => ((sobriquetkeep_Bytes.f kj14 t292 t328).bind fun t331 => (if t331 = true then ((sobriquetref01_OidText.f kj14 l0).bind fun t332 => (if t296.toList = t332.toList then ((sobriquetlaw03_wakes.f kj14).bind fun t333 => (some t333)) else (some false))) else (some false)))) else (some false)) else (some false)) else (some false))) = some r := by rw [if_pos rfl] at H; exact H
                clear H
                have H := H1
                clear H1
                replace H := Option.bind_eq_some_iff.mp H
                obtain ⟨t327, A960, H⟩ := H
                replace H : (if t327 = 0 then (if t293 = 0 then (if t297 = 0 then ((sobriquetref01_Content.f kj14 l0).bind fun t328 => ((sobriquetkeep_Bytes.f kj14 t292 t328).bind fun t331 => (if t331 = true then ((sobriquetref01_OidText.f kj14 l0).bind fun t332 => (if t296.toList = t332.toList then ((sobriquetlaw03_wakes.f kj14).bind fun t333 => (some t333)) else (some false))) else (some false)))) else (some false)) else (some false)) else (some false)) = some r := H
                have A96 := Aside0.mk A960
                clear A960
                by_cases c97 : t327 = 0
                · rw [if_pos c97] at H
                  have c97b0 : (t327 == 0) = true := beq_iff_eq.mpr c97
                  have c97b1 : (t327 != 0) = false := bne_eq_false_iff_eq.mpr c97
                  clear c97
                  by_cases c98 : t293 = 0
                  · rw [if_pos c98] at H
                    have c98b0 : (t293 == 0) = true := beq_iff_eq.mpr c98
                    have c98b1 : (t293 != 0) = false := bne_eq_false_iff_eq.mpr c98
                    clear c98
                    by_cases c99 : t297 = 0
                    · rw [if_pos c99] at H
                      have c99b0 : (t297 == 0) = true := beq_iff_eq.mpr c99
                      have c99b1 : (t297 != 0) = false := bne_eq_false_iff_eq.mpr c99
                      clear c99
                      replace H := Option.bind_eq_some_iff.mp H
                      obtain ⟨t328, A1000, H⟩ := H
                      replace H : ((sobriquetkeep_Bytes.f kj14 t292 t328).bind fun t331 => (if t331 = true then ((sobriquetref01_OidText.f kj14 l0).bind fun t332 => (if t296.toList = t332.toList then ((sobriquetlaw03_wakes.f kj14).bind fun t333 => (some t333)) else (some false))) else (some false))) = some r := H
                      have A100 := Aside0.mk A1000
                      clear A1000
                      replace H := Option.bind_eq_some_iff.mp H
                      obtain ⟨t331, A1010, H⟩ := H
                      replace H : (if t331 = true then ((sobriquetref01_OidText.f kj14 l0).bind fun t332 => (if t296.toList = t332.toList then ((sobriquetlaw03_wakes.f kj14).bind fun t333 => (some t333)) else (some false))) else (some false)) = some r := H
                      have A101 := Aside0.mk A1010
                      clear A1010
                      by_cases c102 : t331 = true
                      · subst c102
                        have H1 : ((sobriquetref01_OidText.f kj14 l0).bind fun t332 => (if t296.toList = t332.toList then ((sobriquetlaw03_wakes.f kj14).bind fun t333 => (some t333)) else (some false))) = some r := by rw [if_pos rfl] at H; exact H
                        clear H
                        have H := H1
                        clear H1
                        replace H := Option.bind_eq_some_iff.mp H
                        obtain ⟨t332, A1030, H⟩ := H
                        replace H : (if t296.toList = t332.toList then ((sobriquetlaw03_wakes.f kj14).bind fun t333 => (some t333)) else (some false)) = some r := H
                        have A103 := Aside0.mk A1030
                        clear A1030
                        by_cases c104 : t296.toList = t332.toList
                        · rw [if_pos c104] at H
                          have c104b0 : (t296.toList == t332.toList) = true := beq_iff_eq.mpr c104
                          have c104b1 : (t296.toList != t332.toList) = false := bne_eq_false_iff_eq.mpr c104
                          clear c104
                          replace H := Option.bind_eq_some_iff.mp H
                          obtain ⟨t333, A1050, H⟩ := H
                          replace H : (some t333) = some r := H
                          have A105 := Aside0.mk A1050
                          clear A1050
                          obtain rfl := Option.some.inj H
                          go_wp2_with (first | ((with_reducible refine gate_callee (f := 17) rfl ?_); refine goesL_ (some 110) rfl rfl Tryd.func17 (by kernel_rfl) rfl #[.slice A0 l0.length c0] rfl (by (try simp only [List.map_toArray, List.map_cons, List.map_nil]); first | done | rfl | (simp only [List.length_drop, List.length_take]; rfl)) ?_; (with_reducible refine (sobriquetref01_Oid.calls kj14 _ _ l0 true _ ?side1 ?side2 A94.out).mono ?_); (case side1 => repeat (first | exact (Kd.C_below HR0.out HB.out) | (with_reducible refine Kd.C_alloc ?_ _) | (with_reducible refine Kd.C_drewN ?_ _) | (with_reducible refine Kd.C_drew ?_))); (case side2 => exact HC0.out); rintro e w' ⟨rfl, ⟨nd, rfl⟩⟩; refine ⟨_, rfl, ?_⟩) | ((with_reducible refine gate_callee (f := 7) rfl ?_); refine goesL_ (some 135) rfl rfl Tryd.func7 (by kernel_rfl) rfl #[.slice Ao17 t289.length co17] rfl (by (try simp only [List.map_toArray, List.map_cons, List.map_nil]); first | done | rfl | (simp only [List.length_drop, List.length_take]; rfl)) ?_; (with_reducible refine (oid_Check.calls _ _ t289 t327 _ ?side1 ?side2 A96.out).mono ?_); (case side1 => repeat (first | exact (Kd.R_reads' HO_7.out).2.2 | (with_reducible refine Kd.C_alloc ?_ _) | (with_reducible refine Kd.C_drewN ?_ _) | (with_reducible refine Kd.C_drew ?_))); (case side2 => exact (Kd.R_reads' HO_7.out).2.1); rintro e w' ⟨rfl, ⟨nd, rfl⟩⟩; refine ⟨_, rfl, ?_⟩) | (go_at_call 19; (with_reducible refine (sobriquetref01_Content.calls kj14 _ _ l0 t328 _ ?side1 ?side2 A100.out).mono ?_); (case side1 => repeat (first | exact (Kd.C_below HR0.out (by repeat (first | (with_reducible first | exact HB.out | apply below_alloc | apply pw_below_drewN | apply below_drew1) | exact HB.out))) | (with_reducible refine Kd.C_alloc ?_ _) | (with_reducible refine Kd.C_drewN ?_ _) | (with_reducible refine Kd.C_drew ?_))); (case side2 => exact HC0.out); rintro e w106 ⟨v329, rfl, ho0, hb⟩; have n0_ := Aside0.mk (Kd.R_below (by (with_reducible repeat (first | apply Kd.R_alloc | apply Kd.R_drewN | apply Kd.R_drew)); exact HO_7.out) hb); have n1_ := Aside0.mk (Kd.R_elder' (by (with_reducible repeat (first | apply Kd.R_alloc | apply Kd.R_drewN | apply Kd.R_drew)); exact HO_8.out) (Kd.R_base ho0) hb); have n2_ := Aside0.mk (Kd.R_lower (Kd.R_new' ho0 (Kd.R_lt (by (with_reducible repeat (first | apply Kd.R_alloc | apply Kd.R_drewN | apply Kd.R_drew)); exact HO_8.out))) (below_size (by repeat (first | (with_reducible first | exact HB.out | apply below_alloc | apply pw_below_drewN | apply below_drew1) | exact HB.out)))); have n3_ := Aside0.mk (below_step (by repeat (first | (with_reducible first | exact HB.out | apply below_alloc | apply pw_below_drewN | apply below_drew1) | exact HB.out)) hb); clear HO_7; clear HO_8; clear HB; have HO_7 := n0_; have HO_8 := n1_; have HO330 := n2_; have HB := n3_; clear n0_ n1_ n2_ n3_; (try clear hb); (try clear hb2); (try clear hk); (try clear hi); (try clear ho0); obtain ⟨Ao107, co107, eo107⟩ := Kd.R_slice HO_8.out; subst eo107; obtain ⟨Ao108, co108, eo108⟩ := Kd.R_slice HO330.out; subst eo108) | (go_at_call 18; (with_reducible refine (sobriquetkeep_Bytes.calls kj14 _ _ t292 _ _ t328 true _ ?side1 ?side2 ?side3 ?side4 A101.out).mono ?_); (case side1 => repeat (first | exact (Kd.R_reads' HO_8.out).2.2 | (with_reducible refine Kd.C_alloc ?_ _) | (with_reducible refine Kd.C_drewN ?_ _) | (with_reducible refine Kd.C_drew ?_))); (case side2 => exact (Kd.R_reads' HO_8.out).2.1); (case side3 => repeat (first | exact (Kd.R_reads' HO330.out).2.2 | (with_reducible refine Kd.C_alloc ?_ _) | (with_reducible refine Kd.C_drewN ?_ _) | (with_reducible refine Kd.C_drew ?_))); (case side4 => exact (Kd.R_reads' HO330.out).2.1); rintro e w' ⟨rfl, ⟨nd, rfl⟩⟩) | (go_at_call 20; (with_reducible refine (sobriquetref01_OidText.calls kj14 _ _ l0 t332 _ ?side1 ?side2 A103.out).mono ?_); (case side1 => repeat (first | exact (Kd.C_below HR0.out (by repeat (first | (with_reducible first | exact HB.out | apply below_alloc | apply pw_below_drewN | apply below_drew1) | exact HB.out))) | (with_reducible refine Kd.C_alloc ?_ _) | (with_reducible refine Kd.C_drewN ?_ _) | (with_reducible refine Kd.C_drew ?_))); (case side2 => exact HC0.out); rintro e w109 ⟨rfl, hb⟩; have n0_ := Aside0.mk (Kd.R_below (by (with_reducible repeat (first | apply Kd.R_alloc | apply Kd.R_drewN | apply Kd.R_drew)); exact HO_7.out) hb); have n1_ := Aside0.mk (Kd.R_below (by (with_reducible repeat (first | apply Kd.R_alloc | apply Kd.R_drewN | apply Kd.R_drew)); exact HO_8.out) hb); have n2_ := Aside0.mk (Kd.R_below (by (with_reducible repeat (first | apply Kd.R_alloc | apply Kd.R_drewN | apply Kd.R_drew)); exact HO330.out) hb); have n3_ := Aside0.mk (below_step (by repeat (first | (with_reducible first | exact HB.out | apply below_alloc | apply pw_below_drewN | apply below_drew1) | exact HB.out)) hb); clear HO_7; clear HO_8; clear HO330; clear HB; have HO_7 := n0_; have HO_8 := n1_; have HO330 := n2_; have HB := n3_; clear n0_ n1_ n2_ n3_; (try clear hb); (try clear hb2); (try clear hk); (try clear hi)) | (go_at_call 8; (with_reducible refine (sobriquetlaw03_wakes.calls kj14  t333 _ A105.out (by first | exact hrt.out | rfl) (by ((with_reducible repeat (first | apply Go.Proofs.YtdnclldebkpkfaaDoor.Oid.Glob.alloc | apply Go.Proofs.YtdnclldebkpkfaaDoor.Oid.Glob.drewN | apply Go.Proofs.YtdnclldebkpkfaaDoor.Oid.Glob.drew)); first | exact HG.out | exact HG.out.on HB.out))).mono ?_); rintro e w110 ⟨rfl, hb⟩; have n0_ := Aside0.mk (Kd.R_below (by (with_reducible repeat (first | apply Kd.R_alloc | apply Kd.R_drewN | apply Kd.R_drew)); exact HO_7.out) hb); have n1_ := Aside0.mk (Kd.R_below (by (with_reducible repeat (first | apply Kd.R_alloc | apply Kd.R_drewN | apply Kd.R_drew)); exact HO_8.out) hb); have n2_ := Aside0.mk (Kd.R_below (by (with_reducible repeat (first | apply Kd.R_alloc | apply Kd.R_drewN | apply Kd.R_drew)); exact HO330.out) hb); have n3_ := Aside0.mk (below_step (by repeat (first | (with_reducible first | exact HB.out | apply below_alloc | apply pw_below_drewN | apply below_drew1) | exact HB.out)) hb); clear HO_7; clear HO_8; clear HO330; clear HB; have HO_7 := n0_; have HO_8 := n1_; have HO330 := n2_; have HB := n3_; clear n0_ n1_ n2_ n3_; (try clear hb); (try clear hb2); (try clear hk); (try clear hi)))
                          go_ret
                          exact ⟨by first | rfl | (simp [errW_none, errW_some] <;> rfl) | (simp [*, errW_none, errW_some] <;> rfl), by repeat (first | (with_reducible first | exact HB.out | apply below_alloc | apply pw_below_drewN | apply below_drew1) | exact HB.out)⟩
                        · rw [if_neg c104] at H
                          have c104b0 : (t296.toList == t332.toList) = false := beq_eq_false_iff_ne.mpr c104
                          have c104b1 : (t296.toList != t332.toList) = true := bne_iff_ne.mpr c104
                          exact absurd ((Option.some.inj H).trans hrt.out) (by decide)
                      · replace c102 := Bool.eq_false_iff.mpr c102
                        subst c102
                        have H1 : (some false) = some r := by rw [if_neg (show ¬ (false = true) by decide)] at H; exact H
                        clear H
                        have H := H1
                        clear H1
                        exact absurd ((Option.some.inj H).trans hrt.out) (by decide)
                    · rw [if_neg c99] at H
                      have c99b0 : (t297 == 0) = false := beq_eq_false_iff_ne.mpr c99
                      have c99b1 : (t297 != 0) = true := bne_iff_ne.mpr c99
                      exact absurd ((Option.some.inj H).trans hrt.out) (by decide)
                  · rw [if_neg c98] at H
                    have c98b0 : (t293 == 0) = false := beq_eq_false_iff_ne.mpr c98
                    have c98b1 : (t293 != 0) = true := bne_iff_ne.mpr c98
                    exact absurd ((Option.some.inj H).trans hrt.out) (by decide)
                · rw [if_neg c97] at H
                  have c97b0 : (t327 == 0) = false := beq_eq_false_iff_ne.mpr c97
                  have c97b1 : (t327 != 0) = true := bne_iff_ne.mpr c97
                  exact absurd ((Option.some.inj H).trans hrt.out) (by decide)
              · replace c95 := Bool.eq_false_iff.mpr c95
                subst c95
                have H1 : ((oid_Check.f t289).bind fun t325 => (if t325 = 8 then (if t293 = 8 then (if t297 = 8 then (if (wrap64 ((t292.length : Int) + (t296.size : Int))) = 0 then ((sobriquetlaw03_wakes.f kj14).bind fun t326 => (some t326)) else (some false)) else (some false)) else (some false)) else (some false))) = some r := by rw [if_neg (show ¬ (false = true) by decide)] at H; exact H
                clear H
                have H := H1
                clear H1
                replace H := Option.bind_eq_some_iff.mp H
                obtain ⟨t325, A1110, H⟩ := H
                replace H : (if t325 = 8 then (if t293 = 8 then (if t297 = 8 then (if (wrap64 ((t292.length : Int) + (t296.size : Int))) = 0 then ((sobriquetlaw03_wakes.f kj14).bind fun t326 => (some t326)) else (some false)) else (some false)) else (some false)) else (some false)) = some r := H
                have A111 := Aside0.mk A1110
                clear A1110
                by_cases c112 : t325 = 8
                · rw [if_pos c112] at H
                  have c112b0 : (t325 == 8) = true := beq_iff_eq.mpr c112
                  have c112b1 : (t325 != 8) = false := bne_eq_false_iff_eq.mpr c112
                  clear c112
                  by_cases c113 : t293 = 8
                  · rw [if_pos c113] at H
                    have c113b0 : (t293 == 8) = true := beq_iff_eq.mpr c113
                    have c113b1 : (t293 != 8) = false := bne_eq_false_iff_eq.mpr c113
                    clear c113
                    by_cases c114 : t297 = 8
                    · rw [if_pos c114] at H
                      have c114b0 : (t297 == 8) = true := beq_iff_eq.mpr c114
                      have c114b1 : (t297 != 8) = false := bne_eq_false_iff_eq.mpr c114
                      clear c114
                      by_cases c115 : (wrap64 ((t292.length : Int) + (t296.size : Int))) = 0
                      · rw [if_pos c115] at H
                        have c115b0 : ((wrap64 ((t292.length : Int) + (t296.size : Int))) == 0) = true := beq_iff_eq.mpr c115
                        have c115b1 : ((wrap64 ((t292.length : Int) + (t296.size : Int))) != 0) = false := bne_eq_false_iff_eq.mpr c115
                        clear c115
                        replace H := Option.bind_eq_some_iff.mp H
                        obtain ⟨t326, A1160, H⟩ := H
                        replace H : (some t326) = some r := H
                        have A116 := Aside0.mk A1160
                        clear A1160
                        obtain rfl := Option.some.inj H
                        go_wp2_with (first | ((with_reducible refine gate_callee (f := 17) rfl ?_); refine goesL_ (some 110) rfl rfl Tryd.func17 (by kernel_rfl) rfl #[.slice A0 l0.length c0] rfl (by (try simp only [List.map_toArray, List.map_cons, List.map_nil]); first | done | rfl | (simp only [List.length_drop, List.length_take]; rfl)) ?_; (with_reducible refine (sobriquetref01_Oid.calls kj14 _ _ l0 false _ ?side1 ?side2 A94.out).mono ?_); (case side1 => repeat (first | exact (Kd.C_below HR0.out HB.out) | (with_reducible refine Kd.C_alloc ?_ _) | (with_reducible refine Kd.C_drewN ?_ _) | (with_reducible refine Kd.C_drew ?_))); (case side2 => exact HC0.out); rintro e w' ⟨rfl, ⟨nd, rfl⟩⟩; refine ⟨_, rfl, ?_⟩) | ((with_reducible refine gate_callee (f := 7) rfl ?_); refine goesL_ (some 113) rfl rfl Tryd.func7 (by kernel_rfl) rfl #[.slice Ao17 t289.length co17] rfl (by (try simp only [List.map_toArray, List.map_cons, List.map_nil]); first | done | rfl | (simp only [List.length_drop, List.length_take]; rfl)) ?_; (with_reducible refine (oid_Check.calls _ _ t289 t325 _ ?side1 ?side2 A111.out).mono ?_); (case side1 => repeat (first | exact (Kd.R_reads' HO_7.out).2.2 | (with_reducible refine Kd.C_alloc ?_ _) | (with_reducible refine Kd.C_drewN ?_ _) | (with_reducible refine Kd.C_drew ?_))); (case side2 => exact (Kd.R_reads' HO_7.out).2.1); rintro e w' ⟨rfl, ⟨nd, rfl⟩⟩; refine ⟨_, rfl, ?_⟩; obtain ⟨Ao117, co117, eo117⟩ := Kd.R_slice HO_8.out; subst eo117) | (go_at_call 8; (with_reducible refine (sobriquetlaw03_wakes.calls kj14  t326 _ A116.out (by first | exact hrt.out | rfl) (by ((with_reducible repeat (first | apply Go.Proofs.YtdnclldebkpkfaaDoor.Oid.Glob.alloc | apply Go.Proofs.YtdnclldebkpkfaaDoor.Oid.Glob.drewN | apply Go.Proofs.YtdnclldebkpkfaaDoor.Oid.Glob.drew)); first | exact HG.out | exact HG.out.on HB.out))).mono ?_); rintro e w118 ⟨rfl, hb⟩; have n0_ := Aside0.mk (Kd.R_below (by (with_reducible repeat (first | apply Kd.R_alloc | apply Kd.R_drewN | apply Kd.R_drew)); exact HO_7.out) hb); have n1_ := Aside0.mk (Kd.R_below (by (with_reducible repeat (first | apply Kd.R_alloc | apply Kd.R_drewN | apply Kd.R_drew)); exact HO_8.out) hb); have n2_ := Aside0.mk (below_step (by repeat (first | (with_reducible first | exact HB.out | apply below_alloc | apply pw_below_drewN | apply below_drew1) | exact HB.out)) hb); clear HO_7; clear HO_8; clear HB; have HO_7 := n0_; have HO_8 := n1_; have HB := n2_; clear n0_ n1_ n2_; (try clear hb); (try clear hb2); (try clear hk); (try clear hi)))
                        go_ret
                        exact ⟨by first | rfl | (simp [errW_none, errW_some] <;> rfl) | (simp [*, errW_none, errW_some] <;> rfl), by repeat (first | (with_reducible first | exact HB.out | apply below_alloc | apply pw_below_drewN | apply below_drew1) | exact HB.out)⟩
                      · rw [if_neg c115] at H
                        have c115b0 : ((wrap64 ((t292.length : Int) + (t296.size : Int))) == 0) = false := beq_eq_false_iff_ne.mpr c115
                        have c115b1 : ((wrap64 ((t292.length : Int) + (t296.size : Int))) != 0) = true := bne_iff_ne.mpr c115
                        exact absurd ((Option.some.inj H).trans hrt.out) (by decide)
                    · rw [if_neg c114] at H
                      have c114b0 : (t297 == 8) = false := beq_eq_false_iff_ne.mpr c114
                      have c114b1 : (t297 != 8) = true := bne_iff_ne.mpr c114
                      exact absurd ((Option.some.inj H).trans hrt.out) (by decide)
                  · rw [if_neg c113] at H
                    have c113b0 : (t293 == 8) = false := beq_eq_false_iff_ne.mpr c113
                    have c113b1 : (t293 != 8) = true := bne_iff_ne.mpr c113
                    exact absurd ((Option.some.inj H).trans hrt.out) (by decide)
                · rw [if_neg c112] at H
                  have c112b0 : (t325 == 8) = false := beq_eq_false_iff_ne.mpr c112
                  have c112b1 : (t325 != 8) = true := bne_iff_ne.mpr c112
                  exact absurd ((Option.some.inj H).trans hrt.out) (by decide)

/-- THE ONE PURE STATEMENT of sobriquetlaw03_OidExact: yours. -/
def sobriquetlaw03_OidExact.Pure : Prop := ∀ (l0 : List Int) (l1 : List Int) (a2 : ByteArray), l0.length ≤ maxLen → l0.length * 8 ≤ 140737488351232 → (∀ x ∈ l0, (Lit.int .i64 x).wf = true) → l1.length ≤ maxLen → l1.length * 1 ≤ 140737488351232 → (∀ x ∈ l1, (Lit.int .u8 x).wf = true) → a2.size ≤ 140737488351232 → ∃ k, sobriquetlaw03_OidExact.f k l0 l1 a2 = some true
theorem sobriquetlaw03_OidExact.walk (P : sobriquetlaw03_OidExact.Pure) (a0 : Option Addr) (len0 cap0 : Nat) (z0 : List Int) (a1 : Option Addr) (len1 cap1 : Nat) (z1 : List Int) (a2 : ByteArray) (w : World) (w0 : (a0 = none ∧ len0 = 0 ∧ cap0 = 0 ∧ z0 = []) ∨ ∃ x, a0 = some x ∧ len0 ≤ cap0 ∧ cap0 ≤ maxLen ∧ z0.length = cap0 ∧ (∀ i, i < z0.length → w.cell? (x.add i) = some (.int .i64 (z0.getD i 0))) ∧ ∀ n ∈ z0, (Lit.int .i64 n).wf = true) (y0 : len0 * 8 ≤ 140737488351232) (w1 : (a1 = none ∧ len1 = 0 ∧ cap1 = 0 ∧ z1 = []) ∨ ∃ x, a1 = some x ∧ len1 ≤ cap1 ∧ cap1 ≤ maxLen ∧ z1.length = cap1 ∧ (∀ i, i < z1.length → w.cell? (x.add i) = some (.int .u8 (z1.getD i 0))) ∧ ∀ n ∈ z1, (Lit.int .u8 n).wf = true) (y1 : len1 * 1 ≤ 140737488351232) (w2 : a2.size ≤ 140737488351232) (hG0 : Go.Proofs.YtdnclldebkpkfaaDoor.Oid.Glob w) :
    Calls Tryd.prog 5 #[.slice a0 len0 cap0, .slice a1 len1 cap1, .string a2] w fun e w' => e = .returned (.bool true) ∧ Below w.heap.size w w' := by
  obtain ⟨l0, rfl, hr0, hm0, hw0, hc0⟩ := ReadsInt.ofRowC w0
  obtain ⟨l1, rfl, hr1, hm1, hw1, hc1⟩ := ReadsInt.ofRowC w1
  obtain ⟨k, h⟩ := P l0 l1 a2 hm0 y0 hw0 hm1 y1 hw1 w2
  refine (sobriquetlaw03_OidExact.calls k _ _ l0 _ _ l1 a2 true w (Kd.C_of_reads (d := (0 : Int)) (h1 := fun _ => rfl) hr0) hc0 (Kd.C_of_reads (d := (0 : Int)) (h1 := fun _ => rfl) hr1) hc1 h rfl hG0).mono ?_
  rintro e w' ⟨rfl, hd⟩
  exact ⟨rfl, hd⟩

end Go.Proofs.YtdnclldebkpkfaaDoor.MOidExact
