-- Written by a program of this session over the translation; checked by Lean alone.
import Derived.Test.YtklgifnkoeadpaaMNarrowInx0
import Derived.Test.YtklgifnkoeadpaaMNarrowInx1
namespace Go.Proofs.Ytklgifnkoeadpaa.MNarrowIn
open Go.RowKit Go.Proofs.YtklgifnkoeadpaaW.PrintWords Go.Proofs.YtklgifnkoeadpaaW.PrintLast Go.Proofs.YtklgifnkoeadpaaW.PrintMore
attribute [local go_sem] max2_int min2_int max_two min_two max_three min_three max_four min_four   -- for this text's walks alone
set_option linter.unusedVariables false
set_option linter.unusedSimpArgs false
set_option linter.unnecessarySimpa false

/-! ### sobriquetlaw15_NarrowIn: function 6 -/
def sobriquetlaw15_NarrowIn.f (k : Nat) (a0 : Int) : Option (Bool) := (narrow_Has.f k 18 a0).bind fun t122 => ((narrow_Has.f k 19 a0).bind fun t123 => ((narrow_Has.f k 26 a0).bind fun t124 => ((narrow_Has.f k 22 a0).bind fun t125 => (if t122 = true then (if t123 = true then (if t124 = true then (if t125 = true then (if a0 ≥ 0 then (if (t125 == (decide (a0 < 128))) = true then (if a0 ≥ 32 then (if (t124 == (decide (a0 < 127))) = true then ((narrow_Has.f k 12 a0).bind fun t126 => (if t126 = true then (some false) else ((sobriquetlaw15_wakes.f).bind fun t127 => (some t127)))) else (some false)) else (if (t124 == false) = true then ((narrow_Has.f k 12 a0).bind fun t128 => (if t128 = true then (some false) else ((sobriquetlaw15_wakes.f).bind fun t129 => (some t129)))) else (some false))) else (some false)) else (if (t125 == false) = true then (if a0 ≥ 32 then (if (t124 == (decide (a0 < 127))) = true then ((narrow_Has.f k 12 a0).bind fun t130 => (if t130 = true then (some false) else ((sobriquetlaw15_wakes.f).bind fun t131 => (some t131)))) else (some false)) else (if (t124 == false) = true then ((narrow_Has.f k 12 a0).bind fun t132 => (if t132 = true then (some false) else ((sobriquetlaw15_wakes.f).bind fun t133 => (some t133)))) else (some false))) else (some false))) else (some false)) else (some false)) else (some false)) else (if t123 = true then (if t124 = true then (if t125 = true then (if a0 ≥ 0 then (if (t125 == (decide (a0 < 128))) = true then (if a0 ≥ 32 then (if (t124 == (decide (a0 < 127))) = true then ((narrow_Has.f k 12 a0).bind fun t134 => (if t134 = true then (some false) else ((sobriquetlaw15_wakes.f).bind fun t135 => (some t135)))) else (some false)) else (if (t124 == false) = true then ((narrow_Has.f k 12 a0).bind fun t136 => (if t136 = true then (some false) else ((sobriquetlaw15_wakes.f).bind fun t137 => (some t137)))) else (some false))) else (some false)) else (if (t125 == false) = true then (if a0 ≥ 32 then (if (t124 == (decide (a0 < 127))) = true then ((narrow_Has.f k 12 a0).bind fun t138 => (if t138 = true then (some false) else ((sobriquetlaw15_wakes.f).bind fun t139 => (some t139)))) else (some false)) else (if (t124 == false) = true then ((narrow_Has.f k 12 a0).bind fun t140 => (if t140 = true then (some false) else ((sobriquetlaw15_wakes.f).bind fun t141 => (some t141)))) else (some false))) else (some false))) else (some false)) else (some false)) else (if t124 = true then (if t125 = true then (if a0 ≥ 0 then (if (t125 == (decide (a0 < 128))) = true then (if a0 ≥ 32 then (if (t124 == (decide (a0 < 127))) = true then ((narrow_Has.f k 12 a0).bind fun t142 => (if t142 = true then (some false) else ((sobriquetlaw15_wakes.f).bind fun t143 => (some t143)))) else (some false)) else (if (t124 == false) = true then ((narrow_Has.f k 12 a0).bind fun t144 => (if t144 = true then (some false) else ((sobriquetlaw15_wakes.f).bind fun t145 => (some t145)))) else (some false))) else (some false)) else (if (t125 == false) = true then (if a0 ≥ 32 then (if (t124 == (decide (a0 < 127))) = true then ((narrow_Has.f k 12 a0).bind fun t146 => (if t146 = true then (some false) else ((sobriquetlaw15_wakes.f).bind fun t147 => (some t147)))) else (some false)) else (if (t124 == false) = true then ((narrow_Has.f k 12 a0).bind fun t148 => (if t148 = true then (some false) else ((sobriquetlaw15_wakes.f).bind fun t149 => (some t149)))) else (some false))) else (some false))) else (some false)) else (if a0 ≥ 0 then (if (t125 == (decide (a0 < 128))) = true then (if a0 ≥ 32 then (if (t124 == (decide (a0 < 127))) = true then ((narrow_Has.f k 12 a0).bind fun t150 => (if t150 = true then (some false) else ((sobriquetlaw15_wakes.f).bind fun t151 => (some t151)))) else (some false)) else (if (t124 == false) = true then ((narrow_Has.f k 12 a0).bind fun t152 => (if t152 = true then (some false) else ((sobriquetlaw15_wakes.f).bind fun t153 => (some t153)))) else (some false))) else (some false)) else (if (t125 == false) = true then (if a0 ≥ 32 then (if (t124 == (decide (a0 < 127))) = true then ((narrow_Has.f k 12 a0).bind fun t154 => (if t154 = true then (some false) else ((sobriquetlaw15_wakes.f).bind fun t155 => (some t155)))) else (some false)) else (if (t124 == false) = true then ((narrow_Has.f k 12 a0).bind fun t156 => (if t156 = true then (some false) else ((sobriquetlaw15_wakes.f).bind fun t157 => (some t157)))) else (some false))) else (some false)))))))))
theorem sobriquetlaw15_NarrowIn.mono : ∀ a0 k, LeO (sobriquetlaw15_NarrowIn.f k a0) (sobriquetlaw15_NarrowIn.f (k + 1) a0) := by
  intro a0 k
  unfold sobriquetlaw15_NarrowIn.f
  repeat' first
      | (with_reducible exact narrow_Has.mono _ _ _)
      | (with_reducible exact LeO.refl _)
      | (with_reducible exact LeO.none _)
      | (with_reducible refine LeO.ite ?_ ?_)
      | (with_reducible refine LeO.bind ?_ (fun _ => ?_))
      | exact narrow_Has.mono _ _ _
      | exact LeO.none _
      | refine LeO.ite ?_ ?_
      | refine LeO.bind ?_ (fun _ => ?_)
set_option maxHeartbeats 8000000 in
set_option maxRecDepth 100000 in
theorem sobriquetlaw15_NarrowIn.calls (k : Nat) (a0 : Int) (r : Bool) (w : World) (h : sobriquetlaw15_NarrowIn.f k a0 = some r) (hrt0 : r = true) :
    Calls Try.prog 6 #[.int .i64 a0] w fun e w' => e = .returned (.bool r) ∧ Below w.heap.size w w' := by
  have HB := Aside0.mk (Below.refl w.heap.size w)
  have hrt := Aside0.mk hrt0
  clear hrt0
  have H : ((narrow_Has.f k 18 a0).bind fun t122 => ((narrow_Has.f k 19 a0).bind fun t123 => ((narrow_Has.f k 26 a0).bind fun t124 => ((narrow_Has.f k 22 a0).bind fun t125 => (if t122 = true then (if t123 = true then (if t124 = true then (if t125 = true then (if a0 ≥ 0 then (if (t125 == (decide (a0 < 128))) = true then (if a0 ≥ 32 then (if (t124 == (decide (a0 < 127))) = true then ((narrow_Has.f k 12 a0).bind fun t126 => (if t126 = true then (some false) else ((sobriquetlaw15_wakes.f).bind fun t127 => (some t127)))) else (some false)) else (if (t124 == false) = true then ((narrow_Has.f k 12 a0).bind fun t128 => (if t128 = true then (some false) else ((sobriquetlaw15_wakes.f).bind fun t129 => (some t129)))) else (some false))) else (some false)) else (if (t125 == false) = true then (if a0 ≥ 32 then (if (t124 == (decide (a0 < 127))) = true then ((narrow_Has.f k 12 a0).bind fun t130 => (if t130 = true then (some false) else ((sobriquetlaw15_wakes.f).bind fun t131 => (some t131)))) else (some false)) else (if (t124 == false) = true then ((narrow_Has.f k 12 a0).bind fun t132 => (if t132 = true then (some false) else ((sobriquetlaw15_wakes.f).bind fun t133 => (some t133)))) else (some false))) else (some false))) else (some false)) else (some false)) else (some false)) else (if t123 = true then (if t124 = true then (if t125 = true then (if a0 ≥ 0 then (if (t125 == (decide (a0 < 128))) = true then (if a0 ≥ 32 then (if (t124 == (decide (a0 < 127))) = true then ((narrow_Has.f k 12 a0).bind fun t134 => (if t134 = true then (some false) else ((sobriquetlaw15_wakes.f).bind fun t135 => (some t135)))) else (some false)) else (if (t124 == false) = true then ((narrow_Has.f k 12 a0).bind fun t136 => (if t136 = true then (some false) else ((sobriquetlaw15_wakes.f).bind fun t137 => (some t137)))) else (some false))) else (some false)) else (if (t125 == false) = true then (if a0 ≥ 32 then (if (t124 == (decide (a0 < 127))) = true then ((narrow_Has.f k 12 a0).bind fun t138 => (if t138 = true then (some false) else ((sobriquetlaw15_wakes.f).bind fun t139 => (some t139)))) else (some false)) else (if (t124 == false) = true then ((narrow_Has.f k 12 a0).bind fun t140 => (if t140 = true then (some false) else ((sobriquetlaw15_wakes.f).bind fun t141 => (some t141)))) else (some false))) else (some false))) else (some false)) else (some false)) else (if t124 = true then (if t125 = true then (if a0 ≥ 0 then (if (t125 == (decide (a0 < 128))) = true then (if a0 ≥ 32 then (if (t124 == (decide (a0 < 127))) = true then ((narrow_Has.f k 12 a0).bind fun t142 => (if t142 = true then (some false) else ((sobriquetlaw15_wakes.f).bind fun t143 => (some t143)))) else (some false)) else (if (t124 == false) = true then ((narrow_Has.f k 12 a0).bind fun t144 => (if t144 = true then (some false) else ((sobriquetlaw15_wakes.f).bind fun t145 => (some t145)))) else (some false))) else (some false)) else (if (t125 == false) = true then (if a0 ≥ 32 then (if (t124 == (decide (a0 < 127))) = true then ((narrow_Has.f k 12 a0).bind fun t146 => (if t146 = true then (some false) else ((sobriquetlaw15_wakes.f).bind fun t147 => (some t147)))) else (some false)) else (if (t124 == false) = true then ((narrow_Has.f k 12 a0).bind fun t148 => (if t148 = true then (some false) else ((sobriquetlaw15_wakes.f).bind fun t149 => (some t149)))) else (some false))) else (some false))) else (some false)) else (if a0 ≥ 0 then (if (t125 == (decide (a0 < 128))) = true then (if a0 ≥ 32 then (if (t124 == (decide (a0 < 127))) = true then ((narrow_Has.f k 12 a0).bind fun t150 => (if t150 = true then (some false) else ((sobriquetlaw15_wakes.f).bind fun t151 => (some t151)))) else (some false)) else (if (t124 == false) = true then ((narrow_Has.f k 12 a0).bind fun t152 => (if t152 = true then (some false) else ((sobriquetlaw15_wakes.f).bind fun t153 => (some t153)))) else (some false))) else (some false)) else (if (t125 == false) = true then (if a0 ≥ 32 then (if (t124 == (decide (a0 < 127))) = true then ((narrow_Has.f k 12 a0).bind fun t154 => (if t154 = true then (some false) else ((sobriquetlaw15_wakes.f).bind fun t155 => (some t155)))) else (some false)) else (if (t124 == false) = true then ((narrow_Has.f k 12 a0).bind fun t156 => (if t156 = true then (some false) else ((sobriquetlaw15_wakes.f).bind fun t157 => (some t157)))) else (some false))) else (some false)))))))))) = some r := h
  clear h
  replace H := Option.bind_eq_some_iff.mp H
  obtain ⟨t122, A20, H⟩ := H
  replace H : ((narrow_Has.f k 19 a0).bind fun t123 => ((narrow_Has.f k 26 a0).bind fun t124 => ((narrow_Has.f k 22 a0).bind fun t125 => (if t122 = true then (if t123 = true then (if t124 = true then (if t125 = true then (if a0 ≥ 0 then (if (t125 == (decide (a0 < 128))) = true then (if a0 ≥ 32 then (if (t124 == (decide (a0 < 127))) = true then ((narrow_Has.f k 12 a0).bind fun t126 => (if t126 = true then (some false) else ((sobriquetlaw15_wakes.f).bind fun t127 => (some t127)))) else (some false)) else (if (t124 == false) = true then ((narrow_Has.f k 12 a0).bind fun t128 => (if t128 = true then (some false) else ((sobriquetlaw15_wakes.f).bind fun t129 => (some t129)))) else (some false))) else (some false)) else (if (t125 == false) = true then (if a0 ≥ 32 then (if (t124 == (decide (a0 < 127))) = true then ((narrow_Has.f k 12 a0).bind fun t130 => (if t130 = true then (some false) else ((sobriquetlaw15_wakes.f).bind fun t131 => (some t131)))) else (some false)) else (if (t124 == false) = true then ((narrow_Has.f k 12 a0).bind fun t132 => (if t132 = true then (some false) else ((sobriquetlaw15_wakes.f).bind fun t133 => (some t133)))) else (some false))) else (some false))) else (some false)) else (some false)) else (some false)) else (if t123 = true then (if t124 = true then (if t125 = true then (if a0 ≥ 0 then (if (t125 == (decide (a0 < 128))) = true then (if a0 ≥ 32 then (if (t124 == (decide (a0 < 127))) = true then ((narrow_Has.f k 12 a0).bind fun t134 => (if t134 = true then (some false) else ((sobriquetlaw15_wakes.f).bind fun t135 => (some t135)))) else (some false)) else (if (t124 == false) = true then ((narrow_Has.f k 12 a0).bind fun t136 => (if t136 = true then (some false) else ((sobriquetlaw15_wakes.f).bind fun t137 => (some t137)))) else (some false))) else (some false)) else (if (t125 == false) = true then (if a0 ≥ 32 then (if (t124 == (decide (a0 < 127))) = true then ((narrow_Has.f k 12 a0).bind fun t138 => (if t138 = true then (some false) else ((sobriquetlaw15_wakes.f).bind fun t139 => (some t139)))) else (some false)) else (if (t124 == false) = true then ((narrow_Has.f k 12 a0).bind fun t140 => (if t140 = true then (some false) else ((sobriquetlaw15_wakes.f).bind fun t141 => (some t141)))) else (some false))) else (some false))) else (some false)) else (some false)) else (if t124 = true then (if t125 = true then (if a0 ≥ 0 then (if (t125 == (decide (a0 < 128))) = true then (if a0 ≥ 32 then (if (t124 == (decide (a0 < 127))) = true then ((narrow_Has.f k 12 a0).bind fun t142 => (if t142 = true then (some false) else ((sobriquetlaw15_wakes.f).bind fun t143 => (some t143)))) else (some false)) else (if (t124 == false) = true then ((narrow_Has.f k 12 a0).bind fun t144 => (if t144 = true then (some false) else ((sobriquetlaw15_wakes.f).bind fun t145 => (some t145)))) else (some false))) else (some false)) else (if (t125 == false) = true then (if a0 ≥ 32 then (if (t124 == (decide (a0 < 127))) = true then ((narrow_Has.f k 12 a0).bind fun t146 => (if t146 = true then (some false) else ((sobriquetlaw15_wakes.f).bind fun t147 => (some t147)))) else (some false)) else (if (t124 == false) = true then ((narrow_Has.f k 12 a0).bind fun t148 => (if t148 = true then (some false) else ((sobriquetlaw15_wakes.f).bind fun t149 => (some t149)))) else (some false))) else (some false))) else (some false)) else (if a0 ≥ 0 then (if (t125 == (decide (a0 < 128))) = true then (if a0 ≥ 32 then (if (t124 == (decide (a0 < 127))) = true then ((narrow_Has.f k 12 a0).bind fun t150 => (if t150 = true then (some false) else ((sobriquetlaw15_wakes.f).bind fun t151 => (some t151)))) else (some false)) else (if (t124 == false) = true then ((narrow_Has.f k 12 a0).bind fun t152 => (if t152 = true then (some false) else ((sobriquetlaw15_wakes.f).bind fun t153 => (some t153)))) else (some false))) else (some false)) else (if (t125 == false) = true then (if a0 ≥ 32 then (if (t124 == (decide (a0 < 127))) = true then ((narrow_Has.f k 12 a0).bind fun t154 => (if t154 = true then (some false) else ((sobriquetlaw15_wakes.f).bind fun t155 => (some t155)))) else (some false)) else (if (t124 == false) = true then ((narrow_Has.f k 12 a0).bind fun t156 => (if t156 = true then (some false) else ((sobriquetlaw15_wakes.f).bind fun t157 => (some t157)))) else (some false))) else (some false))))))))) = some r := H
  have A2 := Aside0.mk A20
  clear A20
  replace H := Option.bind_eq_some_iff.mp H
  obtain ⟨t123, A30, H⟩ := H
  replace H : ((narrow_Has.f k 26 a0).bind fun t124 => ((narrow_Has.f k 22 a0).bind fun t125 => (if t122 = true then (if t123 = true then (if t124 = true then (if t125 = true then (if a0 ≥ 0 then (if (t125 == (decide (a0 < 128))) = true then (if a0 ≥ 32 then (if (t124 == (decide (a0 < 127))) = true then ((narrow_Has.f k 12 a0).bind fun t126 => (if t126 = true then (some false) else ((sobriquetlaw15_wakes.f).bind fun t127 => (some t127)))) else (some false)) else (if (t124 == false) = true then ((narrow_Has.f k 12 a0).bind fun t128 => (if t128 = true then (some false) else ((sobriquetlaw15_wakes.f).bind fun t129 => (some t129)))) else (some false))) else (some false)) else (if (t125 == false) = true then (if a0 ≥ 32 then (if (t124 == (decide (a0 < 127))) = true then ((narrow_Has.f k 12 a0).bind fun t130 => (if t130 = true then (some false) else ((sobriquetlaw15_wakes.f).bind fun t131 => (some t131)))) else (some false)) else (if (t124 == false) = true then ((narrow_Has.f k 12 a0).bind fun t132 => (if t132 = true then (some false) else ((sobriquetlaw15_wakes.f).bind fun t133 => (some t133)))) else (some false))) else (some false))) else (some false)) else (some false)) else (some false)) else (if t123 = true then (if t124 = true then (if t125 = true then (if a0 ≥ 0 then (if (t125 == (decide (a0 < 128))) = true then (if a0 ≥ 32 then (if (t124 == (decide (a0 < 127))) = true then ((narrow_Has.f k 12 a0).bind fun t134 => (if t134 = true then (some false) else ((sobriquetlaw15_wakes.f).bind fun t135 => (some t135)))) else (some false)) else (if (t124 == false) = true then ((narrow_Has.f k 12 a0).bind fun t136 => (if t136 = true then (some false) else ((sobriquetlaw15_wakes.f).bind fun t137 => (some t137)))) else (some false))) else (some false)) else (if (t125 == false) = true then (if a0 ≥ 32 then (if (t124 == (decide (a0 < 127))) = true then ((narrow_Has.f k 12 a0).bind fun t138 => (if t138 = true then (some false) else ((sobriquetlaw15_wakes.f).bind fun t139 => (some t139)))) else (some false)) else (if (t124 == false) = true then ((narrow_Has.f k 12 a0).bind fun t140 => (if t140 = true then (some false) else ((sobriquetlaw15_wakes.f).bind fun t141 => (some t141)))) else (some false))) else (some false))) else (some false)) else (some false)) else (if t124 = true then (if t125 = true then (if a0 ≥ 0 then (if (t125 == (decide (a0 < 128))) = true then (if a0 ≥ 32 then (if (t124 == (decide (a0 < 127))) = true then ((narrow_Has.f k 12 a0).bind fun t142 => (if t142 = true then (some false) else ((sobriquetlaw15_wakes.f).bind fun t143 => (some t143)))) else (some false)) else (if (t124 == false) = true then ((narrow_Has.f k 12 a0).bind fun t144 => (if t144 = true then (some false) else ((sobriquetlaw15_wakes.f).bind fun t145 => (some t145)))) else (some false))) else (some false)) else (if (t125 == false) = true then (if a0 ≥ 32 then (if (t124 == (decide (a0 < 127))) = true then ((narrow_Has.f k 12 a0).bind fun t146 => (if t146 = true then (some false) else ((sobriquetlaw15_wakes.f).bind fun t147 => (some t147)))) else (some false)) else (if (t124 == false) = true then ((narrow_Has.f k 12 a0).bind fun t148 => (if t148 = true then (some false) else ((sobriquetlaw15_wakes.f).bind fun t149 => (some t149)))) else (some false))) else (some false))) else (some false)) else (if a0 ≥ 0 then (if (t125 == (decide (a0 < 128))) = true then (if a0 ≥ 32 then (if (t124 == (decide (a0 < 127))) = true then ((narrow_Has.f k 12 a0).bind fun t150 => (if t150 = true then (some false) else ((sobriquetlaw15_wakes.f).bind fun t151 => (some t151)))) else (some false)) else (if (t124 == false) = true then ((narrow_Has.f k 12 a0).bind fun t152 => (if t152 = true then (some false) else ((sobriquetlaw15_wakes.f).bind fun t153 => (some t153)))) else (some false))) else (some false)) else (if (t125 == false) = true then (if a0 ≥ 32 then (if (t124 == (decide (a0 < 127))) = true then ((narrow_Has.f k 12 a0).bind fun t154 => (if t154 = true then (some false) else ((sobriquetlaw15_wakes.f).bind fun t155 => (some t155)))) else (some false)) else (if (t124 == false) = true then ((narrow_Has.f k 12 a0).bind fun t156 => (if t156 = true then (some false) else ((sobriquetlaw15_wakes.f).bind fun t157 => (some t157)))) else (some false))) else (some false)))))))) = some r := H
  have A3 := Aside0.mk A30
  clear A30
  replace H := Option.bind_eq_some_iff.mp H
  obtain ⟨t124, A40, H⟩ := H
  replace H : ((narrow_Has.f k 22 a0).bind fun t125 => (if t122 = true then (if t123 = true then (if t124 = true then (if t125 = true then (if a0 ≥ 0 then (if (t125 == (decide (a0 < 128))) = true then (if a0 ≥ 32 then (if (t124 == (decide (a0 < 127))) = true then ((narrow_Has.f k 12 a0).bind fun t126 => (if t126 = true then (some false) else ((sobriquetlaw15_wakes.f).bind fun t127 => (some t127)))) else (some false)) else (if (t124 == false) = true then ((narrow_Has.f k 12 a0).bind fun t128 => (if t128 = true then (some false) else ((sobriquetlaw15_wakes.f).bind fun t129 => (some t129)))) else (some false))) else (some false)) else (if (t125 == false) = true then (if a0 ≥ 32 then (if (t124 == (decide (a0 < 127))) = true then ((narrow_Has.f k 12 a0).bind fun t130 => (if t130 = true then (some false) else ((sobriquetlaw15_wakes.f).bind fun t131 => (some t131)))) else (some false)) else (if (t124 == false) = true then ((narrow_Has.f k 12 a0).bind fun t132 => (if t132 = true then (some false) else ((sobriquetlaw15_wakes.f).bind fun t133 => (some t133)))) else (some false))) else (some false))) else (some false)) else (some false)) else (some false)) else (if t123 = true then (if t124 = true then (if t125 = true then (if a0 ≥ 0 then (if (t125 == (decide (a0 < 128))) = true then (if a0 ≥ 32 then (if (t124 == (decide (a0 < 127))) = true then ((narrow_Has.f k 12 a0).bind fun t134 => (if t134 = true then (some false) else ((sobriquetlaw15_wakes.f).bind fun t135 => (some t135)))) else (some false)) else (if (t124 == false) = true then ((narrow_Has.f k 12 a0).bind fun t136 => (if t136 = true then (some false) else ((sobriquetlaw15_wakes.f).bind fun t137 => (some t137)))) else (some false))) else (some false)) else (if (t125 == false) = true then (if a0 ≥ 32 then (if (t124 == (decide (a0 < 127))) = true then ((narrow_Has.f k 12 a0).bind fun t138 => (if t138 = true then (some false) else ((sobriquetlaw15_wakes.f).bind fun t139 => (some t139)))) else (some false)) else (if (t124 == false) = true then ((narrow_Has.f k 12 a0).bind fun t140 => (if t140 = true then (some false) else ((sobriquetlaw15_wakes.f).bind fun t141 => (some t141)))) else (some false))) else (some false))) else (some false)) else (some false)) else (if t124 = true then (if t125 = true then (if a0 ≥ 0 then (if (t125 == (decide (a0 < 128))) = true then (if a0 ≥ 32 then (if (t124 == (decide (a0 < 127))) = true then ((narrow_Has.f k 12 a0).bind fun t142 => (if t142 = true then (some false) else ((sobriquetlaw15_wakes.f).bind fun t143 => (some t143)))) else (some false)) else (if (t124 == false) = true then ((narrow_Has.f k 12 a0).bind fun t144 => (if t144 = true then (some false) else ((sobriquetlaw15_wakes.f).bind fun t145 => (some t145)))) else (some false))) else (some false)) else (if (t125 == false) = true then (if a0 ≥ 32 then (if (t124 == (decide (a0 < 127))) = true then ((narrow_Has.f k 12 a0).bind fun t146 => (if t146 = true then (some false) else ((sobriquetlaw15_wakes.f).bind fun t147 => (some t147)))) else (some false)) else (if (t124 == false) = true then ((narrow_Has.f k 12 a0).bind fun t148 => (if t148 = true then (some false) else ((sobriquetlaw15_wakes.f).bind fun t149 => (some t149)))) else (some false))) else (some false))) else (some false)) else (if a0 ≥ 0 then (if (t125 == (decide (a0 < 128))) = true then (if a0 ≥ 32 then (if (t124 == (decide (a0 < 127))) = true then ((narrow_Has.f k 12 a0).bind fun t150 => (if t150 = true then (some false) else ((sobriquetlaw15_wakes.f).bind fun t151 => (some t151)))) else (some false)) else (if (t124 == false) = true then ((narrow_Has.f k 12 a0).bind fun t152 => (if t152 = true then (some false) else ((sobriquetlaw15_wakes.f).bind fun t153 => (some t153)))) else (some false))) else (some false)) else (if (t125 == false) = true then (if a0 ≥ 32 then (if (t124 == (decide (a0 < 127))) = true then ((narrow_Has.f k 12 a0).bind fun t154 => (if t154 = true then (some false) else ((sobriquetlaw15_wakes.f).bind fun t155 => (some t155)))) else (some false)) else (if (t124 == false) = true then ((narrow_Has.f k 12 a0).bind fun t156 => (if t156 = true then (some false) else ((sobriquetlaw15_wakes.f).bind fun t157 => (some t157)))) else (some false))) else (some false))))))) = some r := H
  have A4 := Aside0.mk A40
  clear A40
  replace H := Option.bind_eq_some_iff.mp H
  obtain ⟨t125, A50, H⟩ := H
  replace H : (if t122 = true then (if t123 = true then (if t124 = true then (if t125 = true then (if a0 ≥ 0 then (if (t125 == (decide (a0 < 128))) = true then (if a0 ≥ 32 then (if (t124 == (decide (a0 < 127))) = true then ((narrow_Has.f k 12 a0).bind fun t126 => (if t126 = true then (some false) else ((sobriquetlaw15_wakes.f).bind fun t127 => (some t127)))) else (some false)) else (if (t124 == false) = true then ((narrow_Has.f k 12 a0).bind fun t128 => (if t128 = true then (some false) else ((sobriquetlaw15_wakes.f).bind fun t129 => (some t129)))) else (some false))) else (some false)) else (if (t125 == false) = true then (if a0 ≥ 32 then (if (t124 == (decide (a0 < 127))) = true then ((narrow_Has.f k 12 a0).bind fun t130 => (if t130 = true then (some false) else ((sobriquetlaw15_wakes.f).bind fun t131 => (some t131)))) else (some false)) else (if (t124 == false) = true then ((narrow_Has.f k 12 a0).bind fun t132 => (if t132 = true then (some false) else ((sobriquetlaw15_wakes.f).bind fun t133 => (some t133)))) else (some false))) else (some false))) else (some false)) else (some false)) else (some false)) else (if t123 = true then (if t124 = true then (if t125 = true then (if a0 ≥ 0 then (if (t125 == (decide (a0 < 128))) = true then (if a0 ≥ 32 then (if (t124 == (decide (a0 < 127))) = true then ((narrow_Has.f k 12 a0).bind fun t134 => (if t134 = true then (some false) else ((sobriquetlaw15_wakes.f).bind fun t135 => (some t135)))) else (some false)) else (if (t124 == false) = true then ((narrow_Has.f k 12 a0).bind fun t136 => (if t136 = true then (some false) else ((sobriquetlaw15_wakes.f).bind fun t137 => (some t137)))) else (some false))) else (some false)) else (if (t125 == false) = true then (if a0 ≥ 32 then (if (t124 == (decide (a0 < 127))) = true then ((narrow_Has.f k 12 a0).bind fun t138 => (if t138 = true then (some false) else ((sobriquetlaw15_wakes.f).bind fun t139 => (some t139)))) else (some false)) else (if (t124 == false) = true then ((narrow_Has.f k 12 a0).bind fun t140 => (if t140 = true then (some false) else ((sobriquetlaw15_wakes.f).bind fun t141 => (some t141)))) else (some false))) else (some false))) else (some false)) else (some false)) else (if t124 = true then (if t125 = true then (if a0 ≥ 0 then (if (t125 == (decide (a0 < 128))) = true then (if a0 ≥ 32 then (if (t124 == (decide (a0 < 127))) = true then ((narrow_Has.f k 12 a0).bind fun t142 => (if t142 = true then (some false) else ((sobriquetlaw15_wakes.f).bind fun t143 => (some t143)))) else (some false)) else (if (t124 == false) = true then ((narrow_Has.f k 12 a0).bind fun t144 => (if t144 = true then (some false) else ((sobriquetlaw15_wakes.f).bind fun t145 => (some t145)))) else (some false))) else (some false)) else (if (t125 == false) = true then (if a0 ≥ 32 then (if (t124 == (decide (a0 < 127))) = true then ((narrow_Has.f k 12 a0).bind fun t146 => (if t146 = true then (some false) else ((sobriquetlaw15_wakes.f).bind fun t147 => (some t147)))) else (some false)) else (if (t124 == false) = true then ((narrow_Has.f k 12 a0).bind fun t148 => (if t148 = true then (some false) else ((sobriquetlaw15_wakes.f).bind fun t149 => (some t149)))) else (some false))) else (some false))) else (some false)) else (if a0 ≥ 0 then (if (t125 == (decide (a0 < 128))) = true then (if a0 ≥ 32 then (if (t124 == (decide (a0 < 127))) = true then ((narrow_Has.f k 12 a0).bind fun t150 => (if t150 = true then (some false) else ((sobriquetlaw15_wakes.f).bind fun t151 => (some t151)))) else (some false)) else (if (t124 == false) = true then ((narrow_Has.f k 12 a0).bind fun t152 => (if t152 = true then (some false) else ((sobriquetlaw15_wakes.f).bind fun t153 => (some t153)))) else (some false))) else (some false)) else (if (t125 == false) = true then (if a0 ≥ 32 then (if (t124 == (decide (a0 < 127))) = true then ((narrow_Has.f k 12 a0).bind fun t154 => (if t154 = true then (some false) else ((sobriquetlaw15_wakes.f).bind fun t155 => (some t155)))) else (some false)) else (if (t124 == false) = true then ((narrow_Has.f k 12 a0).bind fun t156 => (if t156 = true then (some false) else ((sobriquetlaw15_wakes.f).bind fun t157 => (some t157)))) else (some false))) else (some false)))))) = some r := H
  have A5 := Aside0.mk A50
  clear A50
  by_cases c6 : t122 = true
  · subst c6
    have H1 : (if t123 = true then (if t124 = true then (if t125 = true then (if a0 ≥ 0 then (if (t125 == (decide (a0 < 128))) = true then (if a0 ≥ 32 then (if (t124 == (decide (a0 < 127))) = true then ((narrow_Has.f k 12 a0).bind fun t126 => (if t126 = true then (some false) else ((sobriquetlaw15_wakes.f).bind fun t127 => (some t127)))) else (some false)) else (if (t124 == false) = true then ((narrow_Has.f k 12 a0).bind fun t128 => (if t128 = true then (some false) else ((sobriquetlaw15_wakes.f).bind fun t129 => (some t129)))) else (some false))) else (some false)) else (if (t125 == false) = true then (if a0 ≥ 32 then (if (t124 == (decide (a0 < 127))) = true then ((narrow_Has.f k 12 a0).bind fun t130 => (if t130 = true then (some false) else ((sobriquetlaw15_wakes.f).bind fun t131 => (some t131)))) else (some false)) else (if (t124 == false) = true then ((narrow_Has.f k 12 a0).bind fun t132 => (if t132 = true then (some false) else ((sobriquetlaw15_wakes.f).bind fun t133 => (some t133)))) else (some false))) else (some false))) else (some false)) else (some false)) else (some false)) = some r := by rw [if_pos rfl] at H; exact H
    clear H
    have H := H1
    clear H1
    by_cases c7 : t123 = true
    · subst c7
      have H1 : (if t124 = true then (if t125 = true then (if a0 ≥ 0 then (if (t125 == (decide (a0 < 128))) = true then (if a0 ≥ 32 then (if (t124 == (decide (a0 < 127))) = true then ((narrow_Has.f k 12 a0).bind fun t126 => (if t126 = true then (some false) else ((sobriquetlaw15_wakes.f).bind fun t127 => (some t127)))) else (some false)) else (if (t124 == false) = true then ((narrow_Has.f k 12 a0).bind fun t128 => (if t128 = true then (some false) else ((sobriquetlaw15_wakes.f).bind fun t129 => (some t129)))) else (some false))) else (some false)) else (if (t125 == false) = true then (if a0 ≥ 32 then (if (t124 == (decide (a0 < 127))) = true then ((narrow_Has.f k 12 a0).bind fun t130 => (if t130 = true then (some false) else ((sobriquetlaw15_wakes.f).bind fun t131 => (some t131)))) else (some false)) else (if (t124 == false) = true then ((narrow_Has.f k 12 a0).bind fun t132 => (if t132 = true then (some false) else ((sobriquetlaw15_wakes.f).bind fun t133 => (some t133)))) else (some false))) else (some false))) else (some false)) else (some false)) = some r := by rw [if_pos rfl] at H; exact H
      clear H
      have H := H1
      clear H1
      by_cases c8 : t124 = true
      · subst c8
        have H1 : (if t125 = true then (if a0 ≥ 0 then (if (t125 == (decide (a0 < 128))) = true then (if a0 ≥ 32 then (if (true == (decide (a0 < 127))) = true then ((narrow_Has.f k 12 a0).bind fun t126 => (if t126 = true then (some false) else ((sobriquetlaw15_wakes.f).bind fun t127 => (some t127)))) else (some false)) else (if (true == false) = true then ((narrow_Has.f k 12 a0).bind fun t128 => (if t128 = true then (some false) else ((sobriquetlaw15_wakes.f).bind fun t129 => (some t129)))) else (some false))) else (some false)) else (if (t125 == false) = true then (if a0 ≥ 32 then (if (true == (decide (a0 < 127))) = true then ((narrow_Has.f k 12 a0).bind fun t130 => (if t130 = true then (some false) else ((sobriquetlaw15_wakes.f).bind fun t131 => (some t131)))) else (some false)) else (if (true == false) = true then ((narrow_Has.f k 12 a0).bind fun t132 => (if t132 = true then (some false) else ((sobriquetlaw15_wakes.f).bind fun t133 => (some t133)))) else (some false))) else (some false))) else (some false)) = some r := by rw [if_pos rfl] at H; exact H
        clear H
        have H := H1
        clear H1
        by_cases c9 : t125 = true
        · subst c9
          have H1 : (if a0 ≥ 0 then (if (true == (decide (a0 < 128))) = true then (if a0 ≥ 32 then (if (true == (decide (a0 < 127))) = true then ((narrow_Has.f k 12 a0).bind fun t126 => (if t126 = true then (some false) else ((sobriquetlaw15_wakes.f).bind fun t127 => (some t127)))) else (some false)) else (if (true == false) = true then ((narrow_Has.f k 12 a0).bind fun t128 => (if t128 = true then (some false) else ((sobriquetlaw15_wakes.f).bind fun t129 => (some t129)))) else (some false))) else (some false)) else (if (true == false) = true then (if a0 ≥ 32 then (if (true == (decide (a0 < 127))) = true then ((narrow_Has.f k 12 a0).bind fun t130 => (if t130 = true then (some false) else ((sobriquetlaw15_wakes.f).bind fun t131 => (some t131)))) else (some false)) else (if (true == false) = true then ((narrow_Has.f k 12 a0).bind fun t132 => (if t132 = true then (some false) else ((sobriquetlaw15_wakes.f).bind fun t133 => (some t133)))) else (some false))) else (some false))) = some r := by rw [if_pos rfl] at H; exact H
          clear H
          have H := H1
          clear H1
          by_cases c10 : a0 ≥ 0
          · rw [if_pos c10] at H
            have c10b0 : decide (0 ≤ a0) = true := decide_eq_true c10
            clear c10
            by_cases c11 : (true == (decide (a0 < 128))) = true
            · rw [if_pos c11] at H
              have c11b0 : (true == (decide (a0 < 128))) = true := c11
              (try (have c11b1 : decide (true = (decide (a0 < 128))) = true := by simpa using c11))
              (try (have c11b2 : (true == (decide (a0 < 128))) = true := by simpa using c11))
              clear c11
              by_cases c12 : a0 ≥ 32
              · rw [if_pos c12] at H
                have c12b0 : decide (32 ≤ a0) = true := decide_eq_true c12
                clear c12
                by_cases c13 : (true == (decide (a0 < 127))) = true
                · rw [if_pos c13] at H
                  have c13b0 : (true == (decide (a0 < 127))) = true := c13
                  (try (have c13b1 : decide (true = (decide (a0 < 127))) = true := by simpa using c13))
                  (try (have c13b2 : (true == (decide (a0 < 127))) = true := by simpa using c13))
                  clear c13
                  replace H := Option.bind_eq_some_iff.mp H
                  obtain ⟨t126, A140, H⟩ := H
                  replace H : (if t126 = true then (some false) else ((sobriquetlaw15_wakes.f).bind fun t127 => (some t127))) = some r := H
                  have A14 := Aside0.mk A140
                  clear A140
                  by_cases c15 : t126 = true
                  · subst c15
                    have H1 : (some false) = some r := by rw [if_pos rfl] at H; exact H
                    clear H
                    have H := H1
                    clear H1
                    exact absurd ((Option.some.inj H).trans hrt.out) (by decide)
                  · replace c15 := Bool.eq_false_iff.mpr c15
                    subst c15
                    have H1 : ((sobriquetlaw15_wakes.f).bind fun t127 => (some t127)) = some r := by rw [if_neg (show ¬ (false = true) by decide)] at H; exact H
                    clear H
                    have H := H1
                    clear H1
                    replace H := Option.bind_eq_some_iff.mp H
                    obtain ⟨t127, A160, H⟩ := H
                    replace H : (some t127) = some r := H
                    have A16 := Aside0.mk A160
                    clear A160
                    obtain rfl := Option.some.inj H
                    go_enter Try.func6, Try.ntmps6
                    go_wp2_with (first | ((with_reducible refine gate_callee (f := 12) rfl ?_); refine goesL_ (some 8) rfl rfl Try.func12 (by kernel_rfl) rfl #[.int .i64 18, .int .i64 a0] rfl (by (try simp only [List.map_toArray, List.map_cons, List.map_nil]); first | done | rfl | (simp only [List.length_drop, List.length_take]; rfl)) ?_; (with_reducible refine (narrow_Has.calls k 18 a0 true _ A2.out).mono ?_); rintro e w' ⟨rfl, ⟨nd, rfl⟩⟩; refine ⟨_, rfl, ?_⟩) | ((with_reducible refine gate_callee (f := 12) rfl ?_); refine goesL_ (some 10) rfl rfl Try.func12 (by kernel_rfl) rfl #[.int .i64 19, .int .i64 a0] rfl (by (try simp only [List.map_toArray, List.map_cons, List.map_nil]); first | done | rfl | (simp only [List.length_drop, List.length_take]; rfl)) ?_; (with_reducible refine (narrow_Has.calls k 19 a0 true _ A3.out).mono ?_); rintro e w' ⟨rfl, ⟨nd, rfl⟩⟩; refine ⟨_, rfl, ?_⟩) | ((with_reducible refine gate_callee (f := 12) rfl ?_); refine goesL_ (some 12) rfl rfl Try.func12 (by kernel_rfl) rfl #[.int .i64 26, .int .i64 a0] rfl (by (try simp only [List.map_toArray, List.map_cons, List.map_nil]); first | done | rfl | (simp only [List.length_drop, List.length_take]; rfl)) ?_; (with_reducible refine (narrow_Has.calls k 26 a0 true _ A4.out).mono ?_); rintro e w' ⟨rfl, ⟨nd, rfl⟩⟩; refine ⟨_, rfl, ?_⟩) | ((with_reducible refine gate_callee (f := 12) rfl ?_); refine goesL_ (some 14) rfl rfl Try.func12 (by kernel_rfl) rfl #[.int .i64 22, .int .i64 a0] rfl (by (try simp only [List.map_toArray, List.map_cons, List.map_nil]); first | done | rfl | (simp only [List.length_drop, List.length_take]; rfl)) ?_; (with_reducible refine (narrow_Has.calls k 22 a0 true _ A5.out).mono ?_); rintro e w' ⟨rfl, ⟨nd, rfl⟩⟩; refine ⟨_, rfl, ?_⟩) | (go_at_call 12; (with_reducible refine (narrow_Has.calls k 12 a0 false _ A14.out).mono ?_); rintro e w' ⟨rfl, ⟨nd, rfl⟩⟩) | (go_at_call 16; (with_reducible refine (sobriquetlaw15_wakes.calls  t127 _ A16.out).mono ?_); rintro e w17 ⟨rfl, hb⟩; have n0_ := Aside0.mk (below_step (by repeat (first | (with_reducible first | exact HB.out | apply below_alloc | apply pw_below_drewN | apply below_drew1) | exact HB.out)) hb); clear HB; have HB := n0_; clear n0_; (try clear hb); (try clear hb2); (try clear hk); (try clear hi)))
                    go_ret
                    exact ⟨by first | rfl | (simp [errW_none, errW_some] <;> rfl) | (simp [*, errW_none, errW_some] <;> rfl), by repeat (first | (with_reducible first | exact HB.out | apply below_alloc | apply pw_below_drewN | apply below_drew1) | exact HB.out)⟩
                · rw [if_neg c13] at H
                  have c13b0 : (true == (decide (a0 < 127))) = false := by simpa using c13
                  (try (have c13b1 : decide (true = (decide (a0 < 127))) = false := by simpa using c13))
                  (try (have c13b2 : (true == (decide (a0 < 127))) = false := by simpa using c13))
                  (try (have c13b3 : ¬ (true = (decide (a0 < 127))) := by simpa using c13))
                  clear c13
                  exact absurd ((Option.some.inj H).trans hrt.out) (by decide)
              · rw [if_neg c12] at H
                have c12b0 : decide (32 ≤ a0) = false := decide_eq_false c12
                clear c12
                by_cases c18 : (true == false) = true
                · rw [if_pos c18] at H
                  have c18b0 : (true == false) = true := c18
                  (try (have c18b1 : decide (true = false) = true := by simpa using c18))
                  (try (have c18b2 : (true == false) = true := by simpa using c18))
                  clear c18
                  replace H := Option.bind_eq_some_iff.mp H
                  obtain ⟨t128, A190, H⟩ := H
                  replace H : (if t128 = true then (some false) else ((sobriquetlaw15_wakes.f).bind fun t129 => (some t129))) = some r := H
                  have A19 := Aside0.mk A190
                  clear A190
                  by_cases c20 : t128 = true
                  · subst c20
                    have H1 : (some false) = some r := by rw [if_pos rfl] at H; exact H
                    clear H
                    have H := H1
                    clear H1
                    exact absurd ((Option.some.inj H).trans hrt.out) (by decide)
                  · replace c20 := Bool.eq_false_iff.mpr c20
                    subst c20
                    have H1 : ((sobriquetlaw15_wakes.f).bind fun t129 => (some t129)) = some r := by rw [if_neg (show ¬ (false = true) by decide)] at H; exact H
                    clear H
                    have H := H1
                    clear H1
                    replace H := Option.bind_eq_some_iff.mp H
                    obtain ⟨t129, A210, H⟩ := H
                    replace H : (some t129) = some r := H
                    have A21 := Aside0.mk A210
                    clear A210
                    obtain rfl := Option.some.inj H
                    go_enter Try.func6, Try.ntmps6
                    go_wp2_with (first | ((with_reducible refine gate_callee (f := 12) rfl ?_); refine goesL_ (some 8) rfl rfl Try.func12 (by kernel_rfl) rfl #[.int .i64 18, .int .i64 a0] rfl (by (try simp only [List.map_toArray, List.map_cons, List.map_nil]); first | done | rfl | (simp only [List.length_drop, List.length_take]; rfl)) ?_; (with_reducible refine (narrow_Has.calls k 18 a0 true _ A2.out).mono ?_); rintro e w' ⟨rfl, ⟨nd, rfl⟩⟩; refine ⟨_, rfl, ?_⟩) | ((with_reducible refine gate_callee (f := 12) rfl ?_); refine goesL_ (some 10) rfl rfl Try.func12 (by kernel_rfl) rfl #[.int .i64 19, .int .i64 a0] rfl (by (try simp only [List.map_toArray, List.map_cons, List.map_nil]); first | done | rfl | (simp only [List.length_drop, List.length_take]; rfl)) ?_; (with_reducible refine (narrow_Has.calls k 19 a0 true _ A3.out).mono ?_); rintro e w' ⟨rfl, ⟨nd, rfl⟩⟩; refine ⟨_, rfl, ?_⟩) | ((with_reducible refine gate_callee (f := 12) rfl ?_); refine goesL_ (some 12) rfl rfl Try.func12 (by kernel_rfl) rfl #[.int .i64 26, .int .i64 a0] rfl (by (try simp only [List.map_toArray, List.map_cons, List.map_nil]); first | done | rfl | (simp only [List.length_drop, List.length_take]; rfl)) ?_; (with_reducible refine (narrow_Has.calls k 26 a0 true _ A4.out).mono ?_); rintro e w' ⟨rfl, ⟨nd, rfl⟩⟩; refine ⟨_, rfl, ?_⟩) | ((with_reducible refine gate_callee (f := 12) rfl ?_); refine goesL_ (some 14) rfl rfl Try.func12 (by kernel_rfl) rfl #[.int .i64 22, .int .i64 a0] rfl (by (try simp only [List.map_toArray, List.map_cons, List.map_nil]); first | done | rfl | (simp only [List.length_drop, List.length_take]; rfl)) ?_; (with_reducible refine (narrow_Has.calls k 22 a0 true _ A5.out).mono ?_); rintro e w' ⟨rfl, ⟨nd, rfl⟩⟩; refine ⟨_, rfl, ?_⟩) | (go_at_call 12; (with_reducible refine (narrow_Has.calls k 12 a0 false _ A19.out).mono ?_); rintro e w' ⟨rfl, ⟨nd, rfl⟩⟩) | (go_at_call 16; (with_reducible refine (sobriquetlaw15_wakes.calls  t129 _ A21.out).mono ?_); rintro e w22 ⟨rfl, hb⟩; have n0_ := Aside0.mk (below_step (by repeat (first | (with_reducible first | exact HB.out | apply below_alloc | apply pw_below_drewN | apply below_drew1) | exact HB.out)) hb); clear HB; have HB := n0_; clear n0_; (try clear hb); (try clear hb2); (try clear hk); (try clear hi)))
                    go_ret
                    exact ⟨by first | rfl | (simp [errW_none, errW_some] <;> rfl) | (simp [*, errW_none, errW_some] <;> rfl), by repeat (first | (with_reducible first | exact HB.out | apply below_alloc | apply pw_below_drewN | apply below_drew1) | exact HB.out)⟩
                · rw [if_neg c18] at H
                  have c18b0 : (true == false) = false := by simpa using c18
                  (try (have c18b1 : decide (true = false) = false := by simpa using c18))
                  (try (have c18b2 : (true == false) = false := by simpa using c18))
                  (try (have c18b3 : ¬ (true = false) := by simpa using c18))
                  clear c18
                  exact absurd ((Option.some.inj H).trans hrt.out) (by decide)
            · rw [if_neg c11] at H
              have c11b0 : (true == (decide (a0 < 128))) = false := by simpa using c11
              (try (have c11b1 : decide (true = (decide (a0 < 128))) = false := by simpa using c11))
              (try (have c11b2 : (true == (decide (a0 < 128))) = false := by simpa using c11))
              (try (have c11b3 : ¬ (true = (decide (a0 < 128))) := by simpa using c11))
              clear c11
              exact absurd ((Option.some.inj H).trans hrt.out) (by decide)
          · rw [if_neg c10] at H
            have c10b0 : decide (0 ≤ a0) = false := decide_eq_false c10
            clear c10
            by_cases c23 : (true == false) = true
            · rw [if_pos c23] at H
              have c23b0 : (true == false) = true := c23
              (try (have c23b1 : decide (true = false) = true := by simpa using c23))
              (try (have c23b2 : (true == false) = true := by simpa using c23))
              clear c23
              by_cases c24 : a0 ≥ 32
              · rw [if_pos c24] at H
                have c24b0 : decide (32 ≤ a0) = true := decide_eq_true c24
                clear c24
                by_cases c25 : (true == (decide (a0 < 127))) = true
                · rw [if_pos c25] at H
                  have c25b0 : (true == (decide (a0 < 127))) = true := c25
                  (try (have c25b1 : decide (true = (decide (a0 < 127))) = true := by simpa using c25))
                  (try (have c25b2 : (true == (decide (a0 < 127))) = true := by simpa using c25))
                  clear c25
                  replace H := Option.bind_eq_some_iff.mp H
                  obtain ⟨t130, A260, H⟩ := H
                  replace H : (if t130 = true then (some false) else ((sobriquetlaw15_wakes.f).bind fun t131 => (some t131))) = some r := H
                  have A26 := Aside0.mk A260
                  clear A260
                  by_cases c27 : t130 = true
                  · subst c27
                    have H1 : (some false) = some r := by rw [if_pos rfl] at H; exact H
                    clear H
                    have H := H1
                    clear H1
                    exact absurd ((Option.some.inj H).trans hrt.out) (by decide)
                  · replace c27 := Bool.eq_false_iff.mpr c27
                    subst c27
                    have H1 : ((sobriquetlaw15_wakes.f).bind fun t131 => (some t131)) = some r := by rw [if_neg (show ¬ (false = true) by decide)] at H; exact H
                    clear H
                    have H := H1
                    clear H1
                    replace H := Option.bind_eq_some_iff.mp H
                    obtain ⟨t131, A280, H⟩ := H
                    replace H : (some t131) = some r := H
                    have A28 := Aside0.mk A280
                    clear A280
                    obtain rfl := Option.some.inj H
                    go_enter Try.func6, Try.ntmps6
                    go_wp2_with (first | ((with_reducible refine gate_callee (f := 12) rfl ?_); refine goesL_ (some 8) rfl rfl Try.func12 (by kernel_rfl) rfl #[.int .i64 18, .int .i64 a0] rfl (by (try simp only [List.map_toArray, List.map_cons, List.map_nil]); first | done | rfl | (simp only [List.length_drop, List.length_take]; rfl)) ?_; (with_reducible refine (narrow_Has.calls k 18 a0 true _ A2.out).mono ?_); rintro e w' ⟨rfl, ⟨nd, rfl⟩⟩; refine ⟨_, rfl, ?_⟩) | ((with_reducible refine gate_callee (f := 12) rfl ?_); refine goesL_ (some 10) rfl rfl Try.func12 (by kernel_rfl) rfl #[.int .i64 19, .int .i64 a0] rfl (by (try simp only [List.map_toArray, List.map_cons, List.map_nil]); first | done | rfl | (simp only [List.length_drop, List.length_take]; rfl)) ?_; (with_reducible refine (narrow_Has.calls k 19 a0 true _ A3.out).mono ?_); rintro e w' ⟨rfl, ⟨nd, rfl⟩⟩; refine ⟨_, rfl, ?_⟩) | ((with_reducible refine gate_callee (f := 12) rfl ?_); refine goesL_ (some 12) rfl rfl Try.func12 (by kernel_rfl) rfl #[.int .i64 26, .int .i64 a0] rfl (by (try simp only [List.map_toArray, List.map_cons, List.map_nil]); first | done | rfl | (simp only [List.length_drop, List.length_take]; rfl)) ?_; (with_reducible refine (narrow_Has.calls k 26 a0 true _ A4.out).mono ?_); rintro e w' ⟨rfl, ⟨nd, rfl⟩⟩; refine ⟨_, rfl, ?_⟩) | ((with_reducible refine gate_callee (f := 12) rfl ?_); refine goesL_ (some 14) rfl rfl Try.func12 (by kernel_rfl) rfl #[.int .i64 22, .int .i64 a0] rfl (by (try simp only [List.map_toArray, List.map_cons, List.map_nil]); first | done | rfl | (simp only [List.length_drop, List.length_take]; rfl)) ?_; (with_reducible refine (narrow_Has.calls k 22 a0 true _ A5.out).mono ?_); rintro e w' ⟨rfl, ⟨nd, rfl⟩⟩; refine ⟨_, rfl, ?_⟩) | (go_at_call 12; (with_reducible refine (narrow_Has.calls k 12 a0 false _ A26.out).mono ?_); rintro e w' ⟨rfl, ⟨nd, rfl⟩⟩) | (go_at_call 16; (with_reducible refine (sobriquetlaw15_wakes.calls  t131 _ A28.out).mono ?_); rintro e w29 ⟨rfl, hb⟩; have n0_ := Aside0.mk (below_step (by repeat (first | (with_reducible first | exact HB.out | apply below_alloc | apply pw_below_drewN | apply below_drew1) | exact HB.out)) hb); clear HB; have HB := n0_; clear n0_; (try clear hb); (try clear hb2); (try clear hk); (try clear hi)))
                    go_ret
                    exact ⟨by first | rfl | (simp [errW_none, errW_some] <;> rfl) | (simp [*, errW_none, errW_some] <;> rfl), by repeat (first | (with_reducible first | exact HB.out | apply below_alloc | apply pw_below_drewN | apply below_drew1) | exact HB.out)⟩
                · rw [if_neg c25] at H
                  have c25b0 : (true == (decide (a0 < 127))) = false := by simpa using c25
                  (try (have c25b1 : decide (true = (decide (a0 < 127))) = false := by simpa using c25))
                  (try (have c25b2 : (true == (decide (a0 < 127))) = false := by simpa using c25))
                  (try (have c25b3 : ¬ (true = (decide (a0 < 127))) := by simpa using c25))
                  clear c25
                  exact absurd ((Option.some.inj H).trans hrt.out) (by decide)
              · rw [if_neg c24] at H
                have c24b0 : decide (32 ≤ a0) = false := decide_eq_false c24
                clear c24
                by_cases c30 : (true == false) = true
                · rw [if_pos c30] at H
                  have c30b0 : (true == false) = true := c30
                  (try (have c30b1 : decide (true = false) = true := by simpa using c30))
                  (try (have c30b2 : (true == false) = true := by simpa using c30))
                  clear c30
                  replace H := Option.bind_eq_some_iff.mp H
                  obtain ⟨t132, A310, H⟩ := H
                  replace H : (if t132 = true then (some false) else ((sobriquetlaw15_wakes.f).bind fun t133 => (some t133))) = some r := H
                  have A31 := Aside0.mk A310
                  clear A310
                  by_cases c32 : t132 = true
                  · subst c32
                    have H1 : (some false) = some r := by rw [if_pos rfl] at H; exact H
                    clear H
                    have H := H1
                    clear H1
                    exact absurd ((Option.some.inj H).trans hrt.out) (by decide)
                  · replace c32 := Bool.eq_false_iff.mpr c32
                    subst c32
                    have H1 : ((sobriquetlaw15_wakes.f).bind fun t133 => (some t133)) = some r := by rw [if_neg (show ¬ (false = true) by decide)] at H; exact H
                    clear H
                    have H := H1
                    clear H1
                    replace H := Option.bind_eq_some_iff.mp H
                    obtain ⟨t133, A330, H⟩ := H
                    replace H : (some t133) = some r := H
                    have A33 := Aside0.mk A330
                    clear A330
                    obtain rfl := Option.some.inj H
                    go_enter Try.func6, Try.ntmps6
                    go_wp2_with (first | ((with_reducible refine gate_callee (f := 12) rfl ?_); refine goesL_ (some 8) rfl rfl Try.func12 (by kernel_rfl) rfl #[.int .i64 18, .int .i64 a0] rfl (by (try simp only [List.map_toArray, List.map_cons, List.map_nil]); first | done | rfl | (simp only [List.length_drop, List.length_take]; rfl)) ?_; (with_reducible refine (narrow_Has.calls k 18 a0 true _ A2.out).mono ?_); rintro e w' ⟨rfl, ⟨nd, rfl⟩⟩; refine ⟨_, rfl, ?_⟩) | ((with_reducible refine gate_callee (f := 12) rfl ?_); refine goesL_ (some 10) rfl rfl Try.func12 (by kernel_rfl) rfl #[.int .i64 19, .int .i64 a0] rfl (by (try simp only [List.map_toArray, List.map_cons, List.map_nil]); first | done | rfl | (simp only [List.length_drop, List.length_take]; rfl)) ?_; (with_reducible refine (narrow_Has.calls k 19 a0 true _ A3.out).mono ?_); rintro e w' ⟨rfl, ⟨nd, rfl⟩⟩; refine ⟨_, rfl, ?_⟩) | ((with_reducible refine gate_callee (f := 12) rfl ?_); refine goesL_ (some 12) rfl rfl Try.func12 (by kernel_rfl) rfl #[.int .i64 26, .int .i64 a0] rfl (by (try simp only [List.map_toArray, List.map_cons, List.map_nil]); first | done | rfl | (simp only [List.length_drop, List.length_take]; rfl)) ?_; (with_reducible refine (narrow_Has.calls k 26 a0 true _ A4.out).mono ?_); rintro e w' ⟨rfl, ⟨nd, rfl⟩⟩; refine ⟨_, rfl, ?_⟩) | ((with_reducible refine gate_callee (f := 12) rfl ?_); refine goesL_ (some 14) rfl rfl Try.func12 (by kernel_rfl) rfl #[.int .i64 22, .int .i64 a0] rfl (by (try simp only [List.map_toArray, List.map_cons, List.map_nil]); first | done | rfl | (simp only [List.length_drop, List.length_take]; rfl)) ?_; (with_reducible refine (narrow_Has.calls k 22 a0 true _ A5.out).mono ?_); rintro e w' ⟨rfl, ⟨nd, rfl⟩⟩; refine ⟨_, rfl, ?_⟩) | (go_at_call 12; (with_reducible refine (narrow_Has.calls k 12 a0 false _ A31.out).mono ?_); rintro e w' ⟨rfl, ⟨nd, rfl⟩⟩) | (go_at_call 16; (with_reducible refine (sobriquetlaw15_wakes.calls  t133 _ A33.out).mono ?_); rintro e w34 ⟨rfl, hb⟩; have n0_ := Aside0.mk (below_step (by repeat (first | (with_reducible first | exact HB.out | apply below_alloc | apply pw_below_drewN | apply below_drew1) | exact HB.out)) hb); clear HB; have HB := n0_; clear n0_; (try clear hb); (try clear hb2); (try clear hk); (try clear hi)))
                    go_ret
                    exact ⟨by first | rfl | (simp [errW_none, errW_some] <;> rfl) | (simp [*, errW_none, errW_some] <;> rfl), by repeat (first | (with_reducible first | exact HB.out | apply below_alloc | apply pw_below_drewN | apply below_drew1) | exact HB.out)⟩
                · rw [if_neg c30] at H
                  have c30b0 : (true == false) = false := by simpa using c30
                  (try (have c30b1 : decide (true = false) = false := by simpa using c30))
                  (try (have c30b2 : (true == false) = false := by simpa using c30))
                  (try (have c30b3 : ¬ (true = false) := by simpa using c30))
                  clear c30
                  exact absurd ((Option.some.inj H).trans hrt.out) (by decide)
            · rw [if_neg c23] at H
              have c23b0 : (true == false) = false := by simpa using c23
              (try (have c23b1 : decide (true = false) = false := by simpa using c23))
              (try (have c23b2 : (true == false) = false := by simpa using c23))
              (try (have c23b3 : ¬ (true = false) := by simpa using c23))
              clear c23
              exact absurd ((Option.some.inj H).trans hrt.out) (by decide)
        · replace c9 := Bool.eq_false_iff.mpr c9
          subst c9
          have H1 : (some false) = some r := by rw [if_neg (show ¬ (false = true) by decide)] at H; exact H
          clear H
          have H := H1
          clear H1
          exact absurd ((Option.some.inj H).trans hrt.out) (by decide)
      · replace c8 := Bool.eq_false_iff.mpr c8
        subst c8
        have H1 : (some false) = some r := by rw [if_neg (show ¬ (false = true) by decide)] at H; exact H
        clear H
        have H := H1
        clear H1
        exact absurd ((Option.some.inj H).trans hrt.out) (by decide)
    · replace c7 := Bool.eq_false_iff.mpr c7
      subst c7
      have H1 : (some false) = some r := by rw [if_neg (show ¬ (false = true) by decide)] at H; exact H
      clear H
      have H := H1
      clear H1
      exact absurd ((Option.some.inj H).trans hrt.out) (by decide)
  · replace c6 := Bool.eq_false_iff.mpr c6
    subst c6
    have H1 : (if t123 = true then (if t124 = true then (if t125 = true then (if a0 ≥ 0 then (if (t125 == (decide (a0 < 128))) = true then (if a0 ≥ 32 then (if (t124 == (decide (a0 < 127))) = true then ((narrow_Has.f k 12 a0).bind fun t134 => (if t134 = true then (some false) else ((sobriquetlaw15_wakes.f).bind fun t135 => (some t135)))) else (some false)) else (if (t124 == false) = true then ((narrow_Has.f k 12 a0).bind fun t136 => (if t136 = true then (some false) else ((sobriquetlaw15_wakes.f).bind fun t137 => (some t137)))) else (some false))) else (some false)) else (if (t125 == false) = true then (if a0 ≥ 32 then (if (t124 == (decide (a0 < 127))) = true then ((narrow_Has.f k 12 a0).bind fun t138 => (if t138 = true then (some false) else ((sobriquetlaw15_wakes.f).bind fun t139 => (some t139)))) else (some false)) else (if (t124 == false) = true then ((narrow_Has.f k 12 a0).bind fun t140 => (if t140 = true then (some false) else ((sobriquetlaw15_wakes.f).bind fun t141 => (some t141)))) else (some false))) else (some false))) else (some false)) else (some false)) else (if t124 = true then (if t125 = true then (if a0 ≥ 0 then (if (t125 == (decide (a0 < 128))) = true then (if a0 ≥ 32 then (if (t124 == (decide (a0 < 127))) = true then ((narrow_Has.f k 12 a0).bind fun t142 => (if t142 = true then (some false) else ((sobriquetlaw15_wakes.f).bind fun t143 => (some t143)))) else (some false)) else (if (t124 == false) = true then ((narrow_Has.f k 12 a0).bind fun t144 => (if t144 = true then (some false) else ((sobriquetlaw15_wakes.f).bind fun t145 => (some t145)))) else (some false))) else (some false)) else (if (t125 == false) = true then (if a0 ≥ 32 then (if (t124 == (decide (a0 < 127))) = true then ((narrow_Has.f k 12 a0).bind fun t146 => (if t146 = true then (some false) else ((sobriquetlaw15_wakes.f).bind fun t147 => (some t147)))) else (some false)) else (if (t124 == false) = true then ((narrow_Has.f k 12 a0).bind fun t148 => (if t148 = true then (some false) else ((sobriquetlaw15_wakes.f).bind fun t149 => (some t149)))) else (some false))) else (some false))) else (some false)) else (if a0 ≥ 0 then (if (t125 == (decide (a0 < 128))) = true then (if a0 ≥ 32 then (if (t124 == (decide (a0 < 127))) = true then ((narrow_Has.f k 12 a0).bind fun t150 => (if t150 = true then (some false) else ((sobriquetlaw15_wakes.f).bind fun t151 => (some t151)))) else (some false)) else (if (t124 == false) = true then ((narrow_Has.f k 12 a0).bind fun t152 => (if t152 = true then (some false) else ((sobriquetlaw15_wakes.f).bind fun t153 => (some t153)))) else (some false))) else (some false)) else (if (t125 == false) = true then (if a0 ≥ 32 then (if (t124 == (decide (a0 < 127))) = true then ((narrow_Has.f k 12 a0).bind fun t154 => (if t154 = true then (some false) else ((sobriquetlaw15_wakes.f).bind fun t155 => (some t155)))) else (some false)) else (if (t124 == false) = true then ((narrow_Has.f k 12 a0).bind fun t156 => (if t156 = true then (some false) else ((sobriquetlaw15_wakes.f).bind fun t157 => (some t157)))) else (some false))) else (some false))))) = some r := by rw [if_neg (show ¬ (false = true) by decide)] at H; exact H
    clear H
    have H := H1
    clear H1
    by_cases c35 : t123 = true
    · subst c35
      have H1 : (if t124 = true then (if t125 = true then (if a0 ≥ 0 then (if (t125 == (decide (a0 < 128))) = true then (if a0 ≥ 32 then (if (t124 == (decide (a0 < 127))) = true then ((narrow_Has.f k 12 a0).bind fun t134 => (if t134 = true then (some false) else ((sobriquetlaw15_wakes.f).bind fun t135 => (some t135)))) else (some false)) else (if (t124 == false) = true then ((narrow_Has.f k 12 a0).bind fun t136 => (if t136 = true then (some false) else ((sobriquetlaw15_wakes.f).bind fun t137 => (some t137)))) else (some false))) else (some false)) else (if (t125 == false) = true then (if a0 ≥ 32 then (if (t124 == (decide (a0 < 127))) = true then ((narrow_Has.f k 12 a0).bind fun t138 => (if t138 = true then (some false) else ((sobriquetlaw15_wakes.f).bind fun t139 => (some t139)))) else (some false)) else (if (t124 == false) = true then ((narrow_Has.f k 12 a0).bind fun t140 => (if t140 = true then (some false) else ((sobriquetlaw15_wakes.f).bind fun t141 => (some t141)))) else (some false))) else (some false))) else (some false)) else (some false)) = some r := by rw [if_pos rfl] at H; exact H
      clear H
      have H := H1
      clear H1
      by_cases c36 : t124 = true
      · subst c36
        have H1 : (if t125 = true then (if a0 ≥ 0 then (if (t125 == (decide (a0 < 128))) = true then (if a0 ≥ 32 then (if (true == (decide (a0 < 127))) = true then ((narrow_Has.f k 12 a0).bind fun t134 => (if t134 = true then (some false) else ((sobriquetlaw15_wakes.f).bind fun t135 => (some t135)))) else (some false)) else (if (true == false) = true then ((narrow_Has.f k 12 a0).bind fun t136 => (if t136 = true then (some false) else ((sobriquetlaw15_wakes.f).bind fun t137 => (some t137)))) else (some false))) else (some false)) else (if (t125 == false) = true then (if a0 ≥ 32 then (if (true == (decide (a0 < 127))) = true then ((narrow_Has.f k 12 a0).bind fun t138 => (if t138 = true then (some false) else ((sobriquetlaw15_wakes.f).bind fun t139 => (some t139)))) else (some false)) else (if (true == false) = true then ((narrow_Has.f k 12 a0).bind fun t140 => (if t140 = true then (some false) else ((sobriquetlaw15_wakes.f).bind fun t141 => (some t141)))) else (some false))) else (some false))) else (some false)) = some r := by rw [if_pos rfl] at H; exact H
        clear H
        have H := H1
        clear H1
        by_cases c37 : t125 = true
        · subst c37
          have H1 : (if a0 ≥ 0 then (if (true == (decide (a0 < 128))) = true then (if a0 ≥ 32 then (if (true == (decide (a0 < 127))) = true then ((narrow_Has.f k 12 a0).bind fun t134 => (if t134 = true then (some false) else ((sobriquetlaw15_wakes.f).bind fun t135 => (some t135)))) else (some false)) else (if (true == false) = true then ((narrow_Has.f k 12 a0).bind fun t136 => (if t136 = true then (some false) else ((sobriquetlaw15_wakes.f).bind fun t137 => (some t137)))) else (some false))) else (some false)) else (if (true == false) = true then (if a0 ≥ 32 then (if (true == (decide (a0 < 127))) = true then ((narrow_Has.f k 12 a0).bind fun t138 => (if t138 = true then (some false) else ((sobriquetlaw15_wakes.f).bind fun t139 => (some t139)))) else (some false)) else (if (true == false) = true then ((narrow_Has.f k 12 a0).bind fun t140 => (if t140 = true then (some false) else ((sobriquetlaw15_wakes.f).bind fun t141 => (some t141)))) else (some false))) else (some false))) = some r := by rw [if_pos rfl] at H; exact H
          clear H
          have H := H1
          clear H1
          by_cases c38 : a0 ≥ 0
          · rw [if_pos c38] at H
            have c38b0 : decide (0 ≤ a0) = true := decide_eq_true c38
            clear c38
            by_cases c39 : (true == (decide (a0 < 128))) = true
            · rw [if_pos c39] at H
              have c39b0 : (true == (decide (a0 < 128))) = true := c39
              (try (have c39b1 : decide (true = (decide (a0 < 128))) = true := by simpa using c39))
              (try (have c39b2 : (true == (decide (a0 < 128))) = true := by simpa using c39))
              clear c39
              by_cases c40 : a0 ≥ 32
              · rw [if_pos c40] at H
                have c40b0 : decide (32 ≤ a0) = true := decide_eq_true c40
                clear c40
                by_cases c41 : (true == (decide (a0 < 127))) = true
                · rw [if_pos c41] at H
                  have c41b0 : (true == (decide (a0 < 127))) = true := c41
                  (try (have c41b1 : decide (true = (decide (a0 < 127))) = true := by simpa using c41))
                  (try (have c41b2 : (true == (decide (a0 < 127))) = true := by simpa using c41))
                  clear c41
                  replace H := Option.bind_eq_some_iff.mp H
                  obtain ⟨t134, A420, H⟩ := H
                  replace H : (if t134 = true then (some false) else ((sobriquetlaw15_wakes.f).bind fun t135 => (some t135))) = some r := H
                  have A42 := Aside0.mk A420
                  clear A420
                  by_cases c43 : t134 = true
                  · subst c43
                    have H1 : (some false) = some r := by rw [if_pos rfl] at H; exact H
                    clear H
                    have H := H1
                    clear H1
                    exact absurd ((Option.some.inj H).trans hrt.out) (by decide)
                  · replace c43 := Bool.eq_false_iff.mpr c43
                    subst c43
                    have H1 : ((sobriquetlaw15_wakes.f).bind fun t135 => (some t135)) = some r := by rw [if_neg (show ¬ (false = true) by decide)] at H; exact H
                    clear H
                    have H := H1
                    clear H1
                    replace H := Option.bind_eq_some_iff.mp H
                    obtain ⟨t135, A440, H⟩ := H
                    replace H : (some t135) = some r := H
                    have A44 := Aside0.mk A440
                    clear A440
                    obtain rfl := Option.some.inj H
                    go_enter Try.func6, Try.ntmps6
                    go_wp2_with (first | ((with_reducible refine gate_callee (f := 12) rfl ?_); refine goesL_ (some 8) rfl rfl Try.func12 (by kernel_rfl) rfl #[.int .i64 18, .int .i64 a0] rfl (by (try simp only [List.map_toArray, List.map_cons, List.map_nil]); first | done | rfl | (simp only [List.length_drop, List.length_take]; rfl)) ?_; (with_reducible refine (narrow_Has.calls k 18 a0 false _ A2.out).mono ?_); rintro e w' ⟨rfl, ⟨nd, rfl⟩⟩; refine ⟨_, rfl, ?_⟩) | ((with_reducible refine gate_callee (f := 12) rfl ?_); refine goesL_ (some 10) rfl rfl Try.func12 (by kernel_rfl) rfl #[.int .i64 19, .int .i64 a0] rfl (by (try simp only [List.map_toArray, List.map_cons, List.map_nil]); first | done | rfl | (simp only [List.length_drop, List.length_take]; rfl)) ?_; (with_reducible refine (narrow_Has.calls k 19 a0 true _ A3.out).mono ?_); rintro e w' ⟨rfl, ⟨nd, rfl⟩⟩; refine ⟨_, rfl, ?_⟩) | ((with_reducible refine gate_callee (f := 12) rfl ?_); refine goesL_ (some 12) rfl rfl Try.func12 (by kernel_rfl) rfl #[.int .i64 26, .int .i64 a0] rfl (by (try simp only [List.map_toArray, List.map_cons, List.map_nil]); first | done | rfl | (simp only [List.length_drop, List.length_take]; rfl)) ?_; (with_reducible refine (narrow_Has.calls k 26 a0 true _ A4.out).mono ?_); rintro e w' ⟨rfl, ⟨nd, rfl⟩⟩; refine ⟨_, rfl, ?_⟩) | ((with_reducible refine gate_callee (f := 12) rfl ?_); refine goesL_ (some 14) rfl rfl Try.func12 (by kernel_rfl) rfl #[.int .i64 22, .int .i64 a0] rfl (by (try simp only [List.map_toArray, List.map_cons, List.map_nil]); first | done | rfl | (simp only [List.length_drop, List.length_take]; rfl)) ?_; (with_reducible refine (narrow_Has.calls k 22 a0 true _ A5.out).mono ?_); rintro e w' ⟨rfl, ⟨nd, rfl⟩⟩; refine ⟨_, rfl, ?_⟩) | (go_at_call 12; (with_reducible refine (narrow_Has.calls k 12 a0 false _ A42.out).mono ?_); rintro e w' ⟨rfl, ⟨nd, rfl⟩⟩) | (go_at_call 16; (with_reducible refine (sobriquetlaw15_wakes.calls  t135 _ A44.out).mono ?_); rintro e w45 ⟨rfl, hb⟩; have n0_ := Aside0.mk (below_step (by repeat (first | (with_reducible first | exact HB.out | apply below_alloc | apply pw_below_drewN | apply below_drew1) | exact HB.out)) hb); clear HB; have HB := n0_; clear n0_; (try clear hb); (try clear hb2); (try clear hk); (try clear hi)))
                    go_ret
                    exact ⟨by first | rfl | (simp [errW_none, errW_some] <;> rfl) | (simp [*, errW_none, errW_some] <;> rfl), by repeat (first | (with_reducible first | exact HB.out | apply below_alloc | apply pw_below_drewN | apply below_drew1) | exact HB.out)⟩
                · rw [if_neg c41] at H
                  have c41b0 : (true == (decide (a0 < 127))) = false := by simpa using c41
                  (try (have c41b1 : decide (true = (decide (a0 < 127))) = false := by simpa using c41))
                  (try (have c41b2 : (true == (decide (a0 < 127))) = false := by simpa using c41))
                  (try (have c41b3 : ¬ (true = (decide (a0 < 127))) := by simpa using c41))
                  clear c41
                  exact absurd ((Option.some.inj H).trans hrt.out) (by decide)
              · rw [if_neg c40] at H
                have c40b0 : decide (32 ≤ a0) = false := decide_eq_false c40
                clear c40
                by_cases c46 : (true == false) = true
                · rw [if_pos c46] at H
                  have c46b0 : (true == false) = true := c46
                  (try (have c46b1 : decide (true = false) = true := by simpa using c46))
                  (try (have c46b2 : (true == false) = true := by simpa using c46))
                  clear c46
                  replace H := Option.bind_eq_some_iff.mp H
                  obtain ⟨t136, A470, H⟩ := H
                  replace H : (if t136 = true then (some false) else ((sobriquetlaw15_wakes.f).bind fun t137 => (some t137))) = some r := H
                  have A47 := Aside0.mk A470
                  clear A470
                  by_cases c48 : t136 = true
                  · subst c48
                    have H1 : (some false) = some r := by rw [if_pos rfl] at H; exact H
                    clear H
                    have H := H1
                    clear H1
                    exact absurd ((Option.some.inj H).trans hrt.out) (by decide)
                  · replace c48 := Bool.eq_false_iff.mpr c48
                    subst c48
                    have H1 : ((sobriquetlaw15_wakes.f).bind fun t137 => (some t137)) = some r := by rw [if_neg (show ¬ (false = true) by decide)] at H; exact H
                    clear H
                    have H := H1
                    clear H1
                    replace H := Option.bind_eq_some_iff.mp H
                    obtain ⟨t137, A490, H⟩ := H
                    replace H : (some t137) = some r := H
                    have A49 := Aside0.mk A490
                    clear A490
                    obtain rfl := Option.some.inj H
                    go_enter Try.func6, Try.ntmps6
                    go_wp2_with (first | ((with_reducible refine gate_callee (f := 12) rfl ?_); refine goesL_ (some 8) rfl rfl Try.func12 (by kernel_rfl) rfl #[.int .i64 18, .int .i64 a0] rfl (by (try simp only [List.map_toArray, List.map_cons, List.map_nil]); first | done | rfl | (simp only [List.length_drop, List.length_take]; rfl)) ?_; (with_reducible refine (narrow_Has.calls k 18 a0 false _ A2.out).mono ?_); rintro e w' ⟨rfl, ⟨nd, rfl⟩⟩; refine ⟨_, rfl, ?_⟩) | ((with_reducible refine gate_callee (f := 12) rfl ?_); refine goesL_ (some 10) rfl rfl Try.func12 (by kernel_rfl) rfl #[.int .i64 19, .int .i64 a0] rfl (by (try simp only [List.map_toArray, List.map_cons, List.map_nil]); first | done | rfl | (simp only [List.length_drop, List.length_take]; rfl)) ?_; (with_reducible refine (narrow_Has.calls k 19 a0 true _ A3.out).mono ?_); rintro e w' ⟨rfl, ⟨nd, rfl⟩⟩; refine ⟨_, rfl, ?_⟩) | ((with_reducible refine gate_callee (f := 12) rfl ?_); refine goesL_ (some 12) rfl rfl Try.func12 (by kernel_rfl) rfl #[.int .i64 26, .int .i64 a0] rfl (by (try simp only [List.map_toArray, List.map_cons, List.map_nil]); first | done | rfl | (simp only [List.length_drop, List.length_take]; rfl)) ?_; (with_reducible refine (narrow_Has.calls k 26 a0 true _ A4.out).mono ?_); rintro e w' ⟨rfl, ⟨nd, rfl⟩⟩; refine ⟨_, rfl, ?_⟩) | ((with_reducible refine gate_callee (f := 12) rfl ?_); refine goesL_ (some 14) rfl rfl Try.func12 (by kernel_rfl) rfl #[.int .i64 22, .int .i64 a0] rfl (by (try simp only [List.map_toArray, List.map_cons, List.map_nil]); first | done | rfl | (simp only [List.length_drop, List.length_take]; rfl)) ?_; (with_reducible refine (narrow_Has.calls k 22 a0 true _ A5.out).mono ?_); rintro e w' ⟨rfl, ⟨nd, rfl⟩⟩; refine ⟨_, rfl, ?_⟩) | (go_at_call 12; (with_reducible refine (narrow_Has.calls k 12 a0 false _ A47.out).mono ?_); rintro e w' ⟨rfl, ⟨nd, rfl⟩⟩) | (go_at_call 16; (with_reducible refine (sobriquetlaw15_wakes.calls  t137 _ A49.out).mono ?_); rintro e w50 ⟨rfl, hb⟩; have n0_ := Aside0.mk (below_step (by repeat (first | (with_reducible first | exact HB.out | apply below_alloc | apply pw_below_drewN | apply below_drew1) | exact HB.out)) hb); clear HB; have HB := n0_; clear n0_; (try clear hb); (try clear hb2); (try clear hk); (try clear hi)))
                    go_ret
                    exact ⟨by first | rfl | (simp [errW_none, errW_some] <;> rfl) | (simp [*, errW_none, errW_some] <;> rfl), by repeat (first | (with_reducible first | exact HB.out | apply below_alloc | apply pw_below_drewN | apply below_drew1) | exact HB.out)⟩
                · rw [if_neg c46] at H
                  have c46b0 : (true == false) = false := by simpa using c46
                  (try (have c46b1 : decide (true = false) = false := by simpa using c46))
                  (try (have c46b2 : (true == false) = false := by simpa using c46))
                  (try (have c46b3 : ¬ (true = false) := by simpa using c46))
                  clear c46
                  exact absurd ((Option.some.inj H).trans hrt.out) (by decide)
            · rw [if_neg c39] at H
              have c39b0 : (true == (decide (a0 < 128))) = false := by simpa using c39
              (try (have c39b1 : decide (true = (decide (a0 < 128))) = false := by simpa using c39))
              (try (have c39b2 : (true == (decide (a0 < 128))) = false := by simpa using c39))
              (try (have c39b3 : ¬ (true = (decide (a0 < 128))) := by simpa using c39))
              clear c39
              exact absurd ((Option.some.inj H).trans hrt.out) (by decide)
          · rw [if_neg c38] at H
            have c38b0 : decide (0 ≤ a0) = false := decide_eq_false c38
            clear c38
            by_cases c51 : (true == false) = true
            · rw [if_pos c51] at H
              have c51b0 : (true == false) = true := c51
              (try (have c51b1 : decide (true = false) = true := by simpa using c51))
              (try (have c51b2 : (true == false) = true := by simpa using c51))
              clear c51
              by_cases c52 : a0 ≥ 32
              · rw [if_pos c52] at H
                have c52b0 : decide (32 ≤ a0) = true := decide_eq_true c52
                clear c52
                by_cases c53 : (true == (decide (a0 < 127))) = true
                · rw [if_pos c53] at H
                  have c53b0 : (true == (decide (a0 < 127))) = true := c53
                  (try (have c53b1 : decide (true = (decide (a0 < 127))) = true := by simpa using c53))
                  (try (have c53b2 : (true == (decide (a0 < 127))) = true := by simpa using c53))
                  clear c53
                  replace H := Option.bind_eq_some_iff.mp H
                  obtain ⟨t138, A540, H⟩ := H
                  replace H : (if t138 = true then (some false) else ((sobriquetlaw15_wakes.f).bind fun t139 => (some t139))) = some r := H
                  have A54 := Aside0.mk A540
                  clear A540
                  by_cases c55 : t138 = true
                  · subst c55
                    have H1 : (some false) = some r := by rw [if_pos rfl] at H; exact H
                    clear H
                    have H := H1
                    clear H1
                    exact absurd ((Option.some.inj H).trans hrt.out) (by decide)
                  · replace c55 := Bool.eq_false_iff.mpr c55
                    subst c55
                    have H1 : ((sobriquetlaw15_wakes.f).bind fun t139 => (some t139)) = some r := by rw [if_neg (show ¬ (false = true) by decide)] at H; exact H
                    clear H
                    have H := H1
                    clear H1
                    replace H := Option.bind_eq_some_iff.mp H
                    obtain ⟨t139, A560, H⟩ := H
                    replace H : (some t139) = some r := H
                    have A56 := Aside0.mk A560
                    clear A560
                    obtain rfl := Option.some.inj H
                    go_enter Try.func6, Try.ntmps6
                    go_wp2_with (first | ((with_reducible refine gate_callee (f := 12) rfl ?_); refine goesL_ (some 8) rfl rfl Try.func12 (by kernel_rfl) rfl #[.int .i64 18, .int .i64 a0] rfl (by (try simp only [List.map_toArray, List.map_cons, List.map_nil]); first | done | rfl | (simp only [List.length_drop, List.length_take]; rfl)) ?_; (with_reducible refine (narrow_Has.calls k 18 a0 false _ A2.out).mono ?_); rintro e w' ⟨rfl, ⟨nd, rfl⟩⟩; refine ⟨_, rfl, ?_⟩) | ((with_reducible refine gate_callee (f := 12) rfl ?_); refine goesL_ (some 10) rfl rfl Try.func12 (by kernel_rfl) rfl #[.int .i64 19, .int .i64 a0] rfl (by (try simp only [List.map_toArray, List.map_cons, List.map_nil]); first | done | rfl | (simp only [List.length_drop, List.length_take]; rfl)) ?_; (with_reducible refine (narrow_Has.calls k 19 a0 true _ A3.out).mono ?_); rintro e w' ⟨rfl, ⟨nd, rfl⟩⟩; refine ⟨_, rfl, ?_⟩) | ((with_reducible refine gate_callee (f := 12) rfl ?_); refine goesL_ (some 12) rfl rfl Try.func12 (by kernel_rfl) rfl #[.int .i64 26, .int .i64 a0] rfl (by (try simp only [List.map_toArray, List.map_cons, List.map_nil]); first | done | rfl | (simp only [List.length_drop, List.length_take]; rfl)) ?_; (with_reducible refine (narrow_Has.calls k 26 a0 true _ A4.out).mono ?_); rintro e w' ⟨rfl, ⟨nd, rfl⟩⟩; refine ⟨_, rfl, ?_⟩) | ((with_reducible refine gate_callee (f := 12) rfl ?_); refine goesL_ (some 14) rfl rfl Try.func12 (by kernel_rfl) rfl #[.int .i64 22, .int .i64 a0] rfl (by (try simp only [List.map_toArray, List.map_cons, List.map_nil]); first | done | rfl | (simp only [List.length_drop, List.length_take]; rfl)) ?_; (with_reducible refine (narrow_Has.calls k 22 a0 true _ A5.out).mono ?_); rintro e w' ⟨rfl, ⟨nd, rfl⟩⟩; refine ⟨_, rfl, ?_⟩) | (go_at_call 12; (with_reducible refine (narrow_Has.calls k 12 a0 false _ A54.out).mono ?_); rintro e w' ⟨rfl, ⟨nd, rfl⟩⟩) | (go_at_call 16; (with_reducible refine (sobriquetlaw15_wakes.calls  t139 _ A56.out).mono ?_); rintro e w57 ⟨rfl, hb⟩; have n0_ := Aside0.mk (below_step (by repeat (first | (with_reducible first | exact HB.out | apply below_alloc | apply pw_below_drewN | apply below_drew1) | exact HB.out)) hb); clear HB; have HB := n0_; clear n0_; (try clear hb); (try clear hb2); (try clear hk); (try clear hi)))
                    go_ret
                    exact ⟨by first | rfl | (simp [errW_none, errW_some] <;> rfl) | (simp [*, errW_none, errW_some] <;> rfl), by repeat (first | (with_reducible first | exact HB.out | apply below_alloc | apply pw_below_drewN | apply below_drew1) | exact HB.out)⟩
                · rw [if_neg c53] at H
                  have c53b0 : (true == (decide (a0 < 127))) = false := by simpa using c53
                  (try (have c53b1 : decide (true = (decide (a0 < 127))) = false := by simpa using c53))
                  (try (have c53b2 : (true == (decide (a0 < 127))) = false := by simpa using c53))
                  (try (have c53b3 : ¬ (true = (decide (a0 < 127))) := by simpa using c53))
                  clear c53
                  exact absurd ((Option.some.inj H).trans hrt.out) (by decide)
              · rw [if_neg c52] at H
                have c52b0 : decide (32 ≤ a0) = false := decide_eq_false c52
                clear c52
                by_cases c58 : (true == false) = true
                · rw [if_pos c58] at H
                  have c58b0 : (true == false) = true := c58
                  (try (have c58b1 : decide (true = false) = true := by simpa using c58))
                  (try (have c58b2 : (true == false) = true := by simpa using c58))
                  clear c58
                  replace H := Option.bind_eq_some_iff.mp H
                  obtain ⟨t140, A590, H⟩ := H
                  replace H : (if t140 = true then (some false) else ((sobriquetlaw15_wakes.f).bind fun t141 => (some t141))) = some r := H
                  have A59 := Aside0.mk A590
                  clear A590
                  by_cases c60 : t140 = true
                  · subst c60
                    have H1 : (some false) = some r := by rw [if_pos rfl] at H; exact H
                    clear H
                    have H := H1
                    clear H1
                    exact absurd ((Option.some.inj H).trans hrt.out) (by decide)
                  · replace c60 := Bool.eq_false_iff.mpr c60
                    subst c60
                    have H1 : ((sobriquetlaw15_wakes.f).bind fun t141 => (some t141)) = some r := by rw [if_neg (show ¬ (false = true) by decide)] at H; exact H
                    clear H
                    have H := H1
                    clear H1
                    replace H := Option.bind_eq_some_iff.mp H
                    obtain ⟨t141, A610, H⟩ := H
                    replace H : (some t141) = some r := H
                    have A61 := Aside0.mk A610
                    clear A610
                    obtain rfl := Option.some.inj H
                    go_enter Try.func6, Try.ntmps6
                    go_wp2_with (first | ((with_reducible refine gate_callee (f := 12) rfl ?_); refine goesL_ (some 8) rfl rfl Try.func12 (by kernel_rfl) rfl #[.int .i64 18, .int .i64 a0] rfl (by (try simp only [List.map_toArray, List.map_cons, List.map_nil]); first | done | rfl | (simp only [List.length_drop, List.length_take]; rfl)) ?_; (with_reducible refine (narrow_Has.calls k 18 a0 false _ A2.out).mono ?_); rintro e w' ⟨rfl, ⟨nd, rfl⟩⟩; refine ⟨_, rfl, ?_⟩) | ((with_reducible refine gate_callee (f := 12) rfl ?_); refine goesL_ (some 10) rfl rfl Try.func12 (by kernel_rfl) rfl #[.int .i64 19, .int .i64 a0] rfl (by (try simp only [List.map_toArray, List.map_cons, List.map_nil]); first | done | rfl | (simp only [List.length_drop, List.length_take]; rfl)) ?_; (with_reducible refine (narrow_Has.calls k 19 a0 true _ A3.out).mono ?_); rintro e w' ⟨rfl, ⟨nd, rfl⟩⟩; refine ⟨_, rfl, ?_⟩) | ((with_reducible refine gate_callee (f := 12) rfl ?_); refine goesL_ (some 12) rfl rfl Try.func12 (by kernel_rfl) rfl #[.int .i64 26, .int .i64 a0] rfl (by (try simp only [List.map_toArray, List.map_cons, List.map_nil]); first | done | rfl | (simp only [List.length_drop, List.length_take]; rfl)) ?_; (with_reducible refine (narrow_Has.calls k 26 a0 true _ A4.out).mono ?_); rintro e w' ⟨rfl, ⟨nd, rfl⟩⟩; refine ⟨_, rfl, ?_⟩) | ((with_reducible refine gate_callee (f := 12) rfl ?_); refine goesL_ (some 14) rfl rfl Try.func12 (by kernel_rfl) rfl #[.int .i64 22, .int .i64 a0] rfl (by (try simp only [List.map_toArray, List.map_cons, List.map_nil]); first | done | rfl | (simp only [List.length_drop, List.length_take]; rfl)) ?_; (with_reducible refine (narrow_Has.calls k 22 a0 true _ A5.out).mono ?_); rintro e w' ⟨rfl, ⟨nd, rfl⟩⟩; refine ⟨_, rfl, ?_⟩) | (go_at_call 12; (with_reducible refine (narrow_Has.calls k 12 a0 false _ A59.out).mono ?_); rintro e w' ⟨rfl, ⟨nd, rfl⟩⟩) | (go_at_call 16; (with_reducible refine (sobriquetlaw15_wakes.calls  t141 _ A61.out).mono ?_); rintro e w62 ⟨rfl, hb⟩; have n0_ := Aside0.mk (below_step (by repeat (first | (with_reducible first | exact HB.out | apply below_alloc | apply pw_below_drewN | apply below_drew1) | exact HB.out)) hb); clear HB; have HB := n0_; clear n0_; (try clear hb); (try clear hb2); (try clear hk); (try clear hi)))
                    go_ret
                    exact ⟨by first | rfl | (simp [errW_none, errW_some] <;> rfl) | (simp [*, errW_none, errW_some] <;> rfl), by repeat (first | (with_reducible first | exact HB.out | apply below_alloc | apply pw_below_drewN | apply below_drew1) | exact HB.out)⟩
                · rw [if_neg c58] at H
                  have c58b0 : (true == false) = false := by simpa using c58
                  (try (have c58b1 : decide (true = false) = false := by simpa using c58))
                  (try (have c58b2 : (true == false) = false := by simpa using c58))
                  (try (have c58b3 : ¬ (true = false) := by simpa using c58))
                  clear c58
                  exact absurd ((Option.some.inj H).trans hrt.out) (by decide)
            · rw [if_neg c51] at H
              have c51b0 : (true == false) = false := by simpa using c51
              (try (have c51b1 : decide (true = false) = false := by simpa using c51))
              (try (have c51b2 : (true == false) = false := by simpa using c51))
              (try (have c51b3 : ¬ (true = false) := by simpa using c51))
              clear c51
              exact absurd ((Option.some.inj H).trans hrt.out) (by decide)
        · replace c37 := Bool.eq_false_iff.mpr c37
          subst c37
          have H1 : (some false) = some r := by rw [if_neg (show ¬ (false = true) by decide)] at H; exact H
          clear H
          have H := H1
          clear H1
          exact absurd ((Option.some.inj H).trans hrt.out) (by decide)
      · replace c36 := Bool.eq_false_iff.mpr c36
        subst c36
        have H1 : (some false) = some r := by rw [if_neg (show ¬ (false = true) by decide)] at H; exact H
        clear H
        have H := H1
        clear H1
        exact absurd ((Option.some.inj H).trans hrt.out) (by decide)
    · replace c35 := Bool.eq_false_iff.mpr c35
      subst c35
      have H1 : (if t124 = true then (if t125 = true then (if a0 ≥ 0 then (if (t125 == (decide (a0 < 128))) = true then (if a0 ≥ 32 then (if (t124 == (decide (a0 < 127))) = true then ((narrow_Has.f k 12 a0).bind fun t142 => (if t142 = true then (some false) else ((sobriquetlaw15_wakes.f).bind fun t143 => (some t143)))) else (some false)) else (if (t124 == false) = true then ((narrow_Has.f k 12 a0).bind fun t144 => (if t144 = true then (some false) else ((sobriquetlaw15_wakes.f).bind fun t145 => (some t145)))) else (some false))) else (some false)) else (if (t125 == false) = true then (if a0 ≥ 32 then (if (t124 == (decide (a0 < 127))) = true then ((narrow_Has.f k 12 a0).bind fun t146 => (if t146 = true then (some false) else ((sobriquetlaw15_wakes.f).bind fun t147 => (some t147)))) else (some false)) else (if (t124 == false) = true then ((narrow_Has.f k 12 a0).bind fun t148 => (if t148 = true then (some false) else ((sobriquetlaw15_wakes.f).bind fun t149 => (some t149)))) else (some false))) else (some false))) else (some false)) else (if a0 ≥ 0 then (if (t125 == (decide (a0 < 128))) = true then (if a0 ≥ 32 then (if (t124 == (decide (a0 < 127))) = true then ((narrow_Has.f k 12 a0).bind fun t150 => (if t150 = true then (some false) else ((sobriquetlaw15_wakes.f).bind fun t151 => (some t151)))) else (some false)) else (if (t124 == false) = true then ((narrow_Has.f k 12 a0).bind fun t152 => (if t152 = true then (some false) else ((sobriquetlaw15_wakes.f).bind fun t153 => (some t153)))) else (some false))) else (some false)) else (if (t125 == false) = true then (if a0 ≥ 32 then (if (t124 == (decide (a0 < 127))) = true then ((narrow_Has.f k 12 a0).bind fun t154 => (if t154 = true then (some false) else ((sobriquetlaw15_wakes.f).bind fun t155 => (some t155)))) else (some false)) else (if (t124 == false) = true then ((narrow_Has.f k 12 a0).bind fun t156 => (if t156 = true then (some false) else ((sobriquetlaw15_wakes.f).bind fun t157 => (some t157)))) else (some false))) else (some false)))) = some r := by rw [if_neg (show ¬ (false = true) by decide)] at H; exact H
      clear H
      have H := H1
      clear H1
      by_cases c63 : t124 = true
      · subst c63
        have H1 : (if t125 = true then (if a0 ≥ 0 then (if (t125 == (decide (a0 < 128))) = true then (if a0 ≥ 32 then (if (true == (decide (a0 < 127))) = true then ((narrow_Has.f k 12 a0).bind fun t142 => (if t142 = true then (some false) else ((sobriquetlaw15_wakes.f).bind fun t143 => (some t143)))) else (some false)) else (if (true == false) = true then ((narrow_Has.f k 12 a0).bind fun t144 => (if t144 = true then (some false) else ((sobriquetlaw15_wakes.f).bind fun t145 => (some t145)))) else (some false))) else (some false)) else (if (t125 == false) = true then (if a0 ≥ 32 then (if (true == (decide (a0 < 127))) = true then ((narrow_Has.f k 12 a0).bind fun t146 => (if t146 = true then (some false) else ((sobriquetlaw15_wakes.f).bind fun t147 => (some t147)))) else (some false)) else (if (true == false) = true then ((narrow_Has.f k 12 a0).bind fun t148 => (if t148 = true then (some false) else ((sobriquetlaw15_wakes.f).bind fun t149 => (some t149)))) else (some false))) else (some false))) else (some false)) = some r := by rw [if_pos rfl] at H; exact H
        clear H
        have H := H1
        clear H1
        by_cases c64 : t125 = true
        · subst c64
          have H1 : (if a0 ≥ 0 then (if (true == (decide (a0 < 128))) = true then (if a0 ≥ 32 then (if (true == (decide (a0 < 127))) = true then ((narrow_Has.f k 12 a0).bind fun t142 => (if t142 = true then (some false) else ((sobriquetlaw15_wakes.f).bind fun t143 => (some t143)))) else (some false)) else (if (true == false) = true then ((narrow_Has.f k 12 a0).bind fun t144 => (if t144 = true then (some false) else ((sobriquetlaw15_wakes.f).bind fun t145 => (some t145)))) else (some false))) else (some false)) else (if (true == false) = true then (if a0 ≥ 32 then (if (true == (decide (a0 < 127))) = true then ((narrow_Has.f k 12 a0).bind fun t146 => (if t146 = true then (some false) else ((sobriquetlaw15_wakes.f).bind fun t147 => (some t147)))) else (some false)) else (if (true == false) = true then ((narrow_Has.f k 12 a0).bind fun t148 => (if t148 = true then (some false) else ((sobriquetlaw15_wakes.f).bind fun t149 => (some t149)))) else (some false))) else (some false))) = some r := by rw [if_pos rfl] at H; exact H
          clear H
          have H := H1
          clear H1
          by_cases c65 : a0 ≥ 0
          · rw [if_pos c65] at H
            have c65b0 : decide (0 ≤ a0) = true := decide_eq_true c65
            clear c65
            by_cases c66 : (true == (decide (a0 < 128))) = true
            · rw [if_pos c66] at H
              have c66b0 : (true == (decide (a0 < 128))) = true := c66
              (try (have c66b1 : decide (true = (decide (a0 < 128))) = true := by simpa using c66))
              (try (have c66b2 : (true == (decide (a0 < 128))) = true := by simpa using c66))
              clear c66
              by_cases c67 : a0 ≥ 32
              · rw [if_pos c67] at H
                have c67b0 : decide (32 ≤ a0) = true := decide_eq_true c67
                clear c67
                by_cases c68 : (true == (decide (a0 < 127))) = true
                · rw [if_pos c68] at H
                  have c68b0 : (true == (decide (a0 < 127))) = true := c68
                  (try (have c68b1 : decide (true = (decide (a0 < 127))) = true := by simpa using c68))
                  (try (have c68b2 : (true == (decide (a0 < 127))) = true := by simpa using c68))
                  clear c68
                  replace H := Option.bind_eq_some_iff.mp H
                  obtain ⟨t142, A690, H⟩ := H
                  replace H : (if t142 = true then (some false) else ((sobriquetlaw15_wakes.f).bind fun t143 => (some t143))) = some r := H
                  have A69 := Aside0.mk A690
                  clear A690
                  by_cases c70 : t142 = true
                  · subst c70
                    have H1 : (some false) = some r := by rw [if_pos rfl] at H; exact H
                    clear H
                    have H := H1
                    clear H1
                    exact absurd ((Option.some.inj H).trans hrt.out) (by decide)
                  · replace c70 := Bool.eq_false_iff.mpr c70
                    subst c70
                    have H1 : ((sobriquetlaw15_wakes.f).bind fun t143 => (some t143)) = some r := by rw [if_neg (show ¬ (false = true) by decide)] at H; exact H
                    clear H
                    have H := H1
                    clear H1
                    replace H := Option.bind_eq_some_iff.mp H
                    obtain ⟨t143, A710, H⟩ := H
                    replace H : (some t143) = some r := H
                    have A71 := Aside0.mk A710
                    clear A710
                    obtain rfl := Option.some.inj H
                    go_enter Try.func6, Try.ntmps6
                    go_wp2_with (first | ((with_reducible refine gate_callee (f := 12) rfl ?_); refine goesL_ (some 8) rfl rfl Try.func12 (by kernel_rfl) rfl #[.int .i64 18, .int .i64 a0] rfl (by (try simp only [List.map_toArray, List.map_cons, List.map_nil]); first | done | rfl | (simp only [List.length_drop, List.length_take]; rfl)) ?_; (with_reducible refine (narrow_Has.calls k 18 a0 false _ A2.out).mono ?_); rintro e w' ⟨rfl, ⟨nd, rfl⟩⟩; refine ⟨_, rfl, ?_⟩) | ((with_reducible refine gate_callee (f := 12) rfl ?_); refine goesL_ (some 10) rfl rfl Try.func12 (by kernel_rfl) rfl #[.int .i64 19, .int .i64 a0] rfl (by (try simp only [List.map_toArray, List.map_cons, List.map_nil]); first | done | rfl | (simp only [List.length_drop, List.length_take]; rfl)) ?_; (with_reducible refine (narrow_Has.calls k 19 a0 false _ A3.out).mono ?_); rintro e w' ⟨rfl, ⟨nd, rfl⟩⟩; refine ⟨_, rfl, ?_⟩) | ((with_reducible refine gate_callee (f := 12) rfl ?_); refine goesL_ (some 12) rfl rfl Try.func12 (by kernel_rfl) rfl #[.int .i64 26, .int .i64 a0] rfl (by (try simp only [List.map_toArray, List.map_cons, List.map_nil]); first | done | rfl | (simp only [List.length_drop, List.length_take]; rfl)) ?_; (with_reducible refine (narrow_Has.calls k 26 a0 true _ A4.out).mono ?_); rintro e w' ⟨rfl, ⟨nd, rfl⟩⟩; refine ⟨_, rfl, ?_⟩) | ((with_reducible refine gate_callee (f := 12) rfl ?_); refine goesL_ (some 14) rfl rfl Try.func12 (by kernel_rfl) rfl #[.int .i64 22, .int .i64 a0] rfl (by (try simp only [List.map_toArray, List.map_cons, List.map_nil]); first | done | rfl | (simp only [List.length_drop, List.length_take]; rfl)) ?_; (with_reducible refine (narrow_Has.calls k 22 a0 true _ A5.out).mono ?_); rintro e w' ⟨rfl, ⟨nd, rfl⟩⟩; refine ⟨_, rfl, ?_⟩) | (go_at_call 12; (with_reducible refine (narrow_Has.calls k 12 a0 false _ A69.out).mono ?_); rintro e w' ⟨rfl, ⟨nd, rfl⟩⟩) | (go_at_call 16; (with_reducible refine (sobriquetlaw15_wakes.calls  t143 _ A71.out).mono ?_); rintro e w72 ⟨rfl, hb⟩; have n0_ := Aside0.mk (below_step (by repeat (first | (with_reducible first | exact HB.out | apply below_alloc | apply pw_below_drewN | apply below_drew1) | exact HB.out)) hb); clear HB; have HB := n0_; clear n0_; (try clear hb); (try clear hb2); (try clear hk); (try clear hi)))
                    go_ret
                    exact ⟨by first | rfl | (simp [errW_none, errW_some] <;> rfl) | (simp [*, errW_none, errW_some] <;> rfl), by repeat (first | (with_reducible first | exact HB.out | apply below_alloc | apply pw_below_drewN | apply below_drew1) | exact HB.out)⟩
                · rw [if_neg c68] at H
                  have c68b0 : (true == (decide (a0 < 127))) = false := by simpa using c68
                  (try (have c68b1 : decide (true = (decide (a0 < 127))) = false := by simpa using c68))
                  (try (have c68b2 : (true == (decide (a0 < 127))) = false := by simpa using c68))
                  (try (have c68b3 : ¬ (true = (decide (a0 < 127))) := by simpa using c68))
                  clear c68
                  exact absurd ((Option.some.inj H).trans hrt.out) (by decide)
              · rw [if_neg c67] at H
                have c67b0 : decide (32 ≤ a0) = false := decide_eq_false c67
                clear c67
                by_cases c73 : (true == false) = true
                · rw [if_pos c73] at H
                  have c73b0 : (true == false) = true := c73
                  (try (have c73b1 : decide (true = false) = true := by simpa using c73))
                  (try (have c73b2 : (true == false) = true := by simpa using c73))
                  clear c73
                  replace H := Option.bind_eq_some_iff.mp H
                  obtain ⟨t144, A740, H⟩ := H
                  replace H : (if t144 = true then (some false) else ((sobriquetlaw15_wakes.f).bind fun t145 => (some t145))) = some r := H
                  have A74 := Aside0.mk A740
                  clear A740
                  by_cases c75 : t144 = true
                  · subst c75
                    have H1 : (some false) = some r := by rw [if_pos rfl] at H; exact H
                    clear H
                    have H := H1
                    clear H1
                    exact absurd ((Option.some.inj H).trans hrt.out) (by decide)
                  · replace c75 := Bool.eq_false_iff.mpr c75
                    subst c75
                    have H1 : ((sobriquetlaw15_wakes.f).bind fun t145 => (some t145)) = some r := by rw [if_neg (show ¬ (false = true) by decide)] at H; exact H
                    clear H
                    have H := H1
                    clear H1
                    replace H := Option.bind_eq_some_iff.mp H
                    obtain ⟨t145, A760, H⟩ := H
                    replace H : (some t145) = some r := H
                    have A76 := Aside0.mk A760
                    clear A760
                    obtain rfl := Option.some.inj H
                    go_enter Try.func6, Try.ntmps6
                    go_wp2_with (first | ((with_reducible refine gate_callee (f := 12) rfl ?_); refine goesL_ (some 8) rfl rfl Try.func12 (by kernel_rfl) rfl #[.int .i64 18, .int .i64 a0] rfl (by (try simp only [List.map_toArray, List.map_cons, List.map_nil]); first | done | rfl | (simp only [List.length_drop, List.length_take]; rfl)) ?_; (with_reducible refine (narrow_Has.calls k 18 a0 false _ A2.out).mono ?_); rintro e w' ⟨rfl, ⟨nd, rfl⟩⟩; refine ⟨_, rfl, ?_⟩) | ((with_reducible refine gate_callee (f := 12) rfl ?_); refine goesL_ (some 10) rfl rfl Try.func12 (by kernel_rfl) rfl #[.int .i64 19, .int .i64 a0] rfl (by (try simp only [List.map_toArray, List.map_cons, List.map_nil]); first | done | rfl | (simp only [List.length_drop, List.length_take]; rfl)) ?_; (with_reducible refine (narrow_Has.calls k 19 a0 false _ A3.out).mono ?_); rintro e w' ⟨rfl, ⟨nd, rfl⟩⟩; refine ⟨_, rfl, ?_⟩) | ((with_reducible refine gate_callee (f := 12) rfl ?_); refine goesL_ (some 12) rfl rfl Try.func12 (by kernel_rfl) rfl #[.int .i64 26, .int .i64 a0] rfl (by (try simp only [List.map_toArray, List.map_cons, List.map_nil]); first | done | rfl | (simp only [List.length_drop, List.length_take]; rfl)) ?_; (with_reducible refine (narrow_Has.calls k 26 a0 true _ A4.out).mono ?_); rintro e w' ⟨rfl, ⟨nd, rfl⟩⟩; refine ⟨_, rfl, ?_⟩) | ((with_reducible refine gate_callee (f := 12) rfl ?_); refine goesL_ (some 14) rfl rfl Try.func12 (by kernel_rfl) rfl #[.int .i64 22, .int .i64 a0] rfl (by (try simp only [List.map_toArray, List.map_cons, List.map_nil]); first | done | rfl | (simp only [List.length_drop, List.length_take]; rfl)) ?_; (with_reducible refine (narrow_Has.calls k 22 a0 true _ A5.out).mono ?_); rintro e w' ⟨rfl, ⟨nd, rfl⟩⟩; refine ⟨_, rfl, ?_⟩) | (go_at_call 12; (with_reducible refine (narrow_Has.calls k 12 a0 false _ A74.out).mono ?_); rintro e w' ⟨rfl, ⟨nd, rfl⟩⟩) | (go_at_call 16; (with_reducible refine (sobriquetlaw15_wakes.calls  t145 _ A76.out).mono ?_); rintro e w77 ⟨rfl, hb⟩; have n0_ := Aside0.mk (below_step (by repeat (first | (with_reducible first | exact HB.out | apply below_alloc | apply pw_below_drewN | apply below_drew1) | exact HB.out)) hb); clear HB; have HB := n0_; clear n0_; (try clear hb); (try clear hb2); (try clear hk); (try clear hi)))
                    go_ret
                    exact ⟨by first | rfl | (simp [errW_none, errW_some] <;> rfl) | (simp [*, errW_none, errW_some] <;> rfl), by repeat (first | (with_reducible first | exact HB.out | apply below_alloc | apply pw_below_drewN | apply below_drew1) | exact HB.out)⟩
                · rw [if_neg c73] at H
                  have c73b0 : (true == false) = false := by simpa using c73
                  (try (have c73b1 : decide (true = false) = false := by simpa using c73))
                  (try (have c73b2 : (true == false) = false := by simpa using c73))
                  (try (have c73b3 : ¬ (true = false) := by simpa using c73))
                  clear c73
                  exact absurd ((Option.some.inj H).trans hrt.out) (by decide)
            · rw [if_neg c66] at H
              have c66b0 : (true == (decide (a0 < 128))) = false := by simpa using c66
              (try (have c66b1 : decide (true = (decide (a0 < 128))) = false := by simpa using c66))
              (try (have c66b2 : (true == (decide (a0 < 128))) = false := by simpa using c66))
              (try (have c66b3 : ¬ (true = (decide (a0 < 128))) := by simpa using c66))
              clear c66
              exact absurd ((Option.some.inj H).trans hrt.out) (by decide)
          · rw [if_neg c65] at H
            have c65b0 : decide (0 ≤ a0) = false := decide_eq_false c65
            clear c65
            by_cases c78 : (true == false) = true
            · rw [if_pos c78] at H
              have c78b0 : (true == false) = true := c78
              (try (have c78b1 : decide (true = false) = true := by simpa using c78))
              (try (have c78b2 : (true == false) = true := by simpa using c78))
              clear c78
              by_cases c79 : a0 ≥ 32
              · rw [if_pos c79] at H
                have c79b0 : decide (32 ≤ a0) = true := decide_eq_true c79
                clear c79
                by_cases c80 : (true == (decide (a0 < 127))) = true
                · rw [if_pos c80] at H
                  have c80b0 : (true == (decide (a0 < 127))) = true := c80
                  (try (have c80b1 : decide (true = (decide (a0 < 127))) = true := by simpa using c80))
                  (try (have c80b2 : (true == (decide (a0 < 127))) = true := by simpa using c80))
                  clear c80
                  replace H := Option.bind_eq_some_iff.mp H
                  obtain ⟨t146, A810, H⟩ := H
                  replace H : (if t146 = true then (some false) else ((sobriquetlaw15_wakes.f).bind fun t147 => (some t147))) = some r := H
                  have A81 := Aside0.mk A810
                  clear A810
                  by_cases c82 : t146 = true
                  · subst c82
                    have H1 : (some false) = some r := by rw [if_pos rfl] at H; exact H
                    clear H
                    have H := H1
                    clear H1
                    exact absurd ((Option.some.inj H).trans hrt.out) (by decide)
                  · replace c82 := Bool.eq_false_iff.mpr c82
                    subst c82
                    have H1 : ((sobriquetlaw15_wakes.f).bind fun t147 => (some t147)) = some r := by rw [if_neg (show ¬ (false = true) by decide)] at H; exact H
                    clear H
                    have H := H1
                    clear H1
                    replace H := Option.bind_eq_some_iff.mp H
                    obtain ⟨t147, A830, H⟩ := H
                    replace H : (some t147) = some r := H
                    have A83 := Aside0.mk A830
                    clear A830
                    obtain rfl := Option.some.inj H
                    go_enter Try.func6, Try.ntmps6
                    go_wp2_with (first | ((with_reducible refine gate_callee (f := 12) rfl ?_); refine goesL_ (some 8) rfl rfl Try.func12 (by kernel_rfl) rfl #[.int .i64 18, .int .i64 a0] rfl (by (try simp only [List.map_toArray, List.map_cons, List.map_nil]); first | done | rfl | (simp only [List.length_drop, List.length_take]; rfl)) ?_; (with_reducible refine (narrow_Has.calls k 18 a0 false _ A2.out).mono ?_); rintro e w' ⟨rfl, ⟨nd, rfl⟩⟩; refine ⟨_, rfl, ?_⟩) | ((with_reducible refine gate_callee (f := 12) rfl ?_); refine goesL_ (some 10) rfl rfl Try.func12 (by kernel_rfl) rfl #[.int .i64 19, .int .i64 a0] rfl (by (try simp only [List.map_toArray, List.map_cons, List.map_nil]); first | done | rfl | (simp only [List.length_drop, List.length_take]; rfl)) ?_; (with_reducible refine (narrow_Has.calls k 19 a0 false _ A3.out).mono ?_); rintro e w' ⟨rfl, ⟨nd, rfl⟩⟩; refine ⟨_, rfl, ?_⟩) | ((with_reducible refine gate_callee (f := 12) rfl ?_); refine goesL_ (some 12) rfl rfl Try.func12 (by kernel_rfl) rfl #[.int .i64 26, .int .i64 a0] rfl (by (try simp only [List.map_toArray, List.map_cons, List.map_nil]); first | done | rfl | (simp only [List.length_drop, List.length_take]; rfl)) ?_; (with_reducible refine (narrow_Has.calls k 26 a0 true _ A4.out).mono ?_); rintro e w' ⟨rfl, ⟨nd, rfl⟩⟩; refine ⟨_, rfl, ?_⟩) | ((with_reducible refine gate_callee (f := 12) rfl ?_); refine goesL_ (some 14) rfl rfl Try.func12 (by kernel_rfl) rfl #[.int .i64 22, .int .i64 a0] rfl (by (try simp only [List.map_toArray, List.map_cons, List.map_nil]); first | done | rfl | (simp only [List.length_drop, List.length_take]; rfl)) ?_; (with_reducible refine (narrow_Has.calls k 22 a0 true _ A5.out).mono ?_); rintro e w' ⟨rfl, ⟨nd, rfl⟩⟩; refine ⟨_, rfl, ?_⟩) | (go_at_call 12; (with_reducible refine (narrow_Has.calls k 12 a0 false _ A81.out).mono ?_); rintro e w' ⟨rfl, ⟨nd, rfl⟩⟩) | (go_at_call 16; (with_reducible refine (sobriquetlaw15_wakes.calls  t147 _ A83.out).mono ?_); rintro e w84 ⟨rfl, hb⟩; have n0_ := Aside0.mk (below_step (by repeat (first | (with_reducible first | exact HB.out | apply below_alloc | apply pw_below_drewN | apply below_drew1) | exact HB.out)) hb); clear HB; have HB := n0_; clear n0_; (try clear hb); (try clear hb2); (try clear hk); (try clear hi)))
                    go_ret
                    exact ⟨by first | rfl | (simp [errW_none, errW_some] <;> rfl) | (simp [*, errW_none, errW_some] <;> rfl), by repeat (first | (with_reducible first | exact HB.out | apply below_alloc | apply pw_below_drewN | apply below_drew1) | exact HB.out)⟩
                · rw [if_neg c80] at H
                  have c80b0 : (true == (decide (a0 < 127))) = false := by simpa using c80
                  (try (have c80b1 : decide (true = (decide (a0 < 127))) = false := by simpa using c80))
                  (try (have c80b2 : (true == (decide (a0 < 127))) = false := by simpa using c80))
                  (try (have c80b3 : ¬ (true = (decide (a0 < 127))) := by simpa using c80))
                  clear c80
                  exact absurd ((Option.some.inj H).trans hrt.out) (by decide)
              · rw [if_neg c79] at H
                have c79b0 : decide (32 ≤ a0) = false := decide_eq_false c79
                clear c79
                by_cases c85 : (true == false) = true
                · rw [if_pos c85] at H
                  have c85b0 : (true == false) = true := c85
                  (try (have c85b1 : decide (true = false) = true := by simpa using c85))
                  (try (have c85b2 : (true == false) = true := by simpa using c85))
                  clear c85
                  replace H := Option.bind_eq_some_iff.mp H
                  obtain ⟨t148, A860, H⟩ := H
                  replace H : (if t148 = true then (some false) else ((sobriquetlaw15_wakes.f).bind fun t149 => (some t149))) = some r := H
                  have A86 := Aside0.mk A860
                  clear A860
                  by_cases c87 : t148 = true
                  · subst c87
                    have H1 : (some false) = some r := by rw [if_pos rfl] at H; exact H
                    clear H
                    have H := H1
                    clear H1
                    exact absurd ((Option.some.inj H).trans hrt.out) (by decide)
                  · replace c87 := Bool.eq_false_iff.mpr c87
                    subst c87
                    have H1 : ((sobriquetlaw15_wakes.f).bind fun t149 => (some t149)) = some r := by rw [if_neg (show ¬ (false = true) by decide)] at H; exact H
                    clear H
                    have H := H1
                    clear H1
                    replace H := Option.bind_eq_some_iff.mp H
                    obtain ⟨t149, A880, H⟩ := H
                    replace H : (some t149) = some r := H
                    have A88 := Aside0.mk A880
                    clear A880
                    obtain rfl := Option.some.inj H
                    go_enter Try.func6, Try.ntmps6
                    go_wp2_with (first | ((with_reducible refine gate_callee (f := 12) rfl ?_); refine goesL_ (some 8) rfl rfl Try.func12 (by kernel_rfl) rfl #[.int .i64 18, .int .i64 a0] rfl (by (try simp only [List.map_toArray, List.map_cons, List.map_nil]); first | done | rfl | (simp only [List.length_drop, List.length_take]; rfl)) ?_; (with_reducible refine (narrow_Has.calls k 18 a0 false _ A2.out).mono ?_); rintro e w' ⟨rfl, ⟨nd, rfl⟩⟩; refine ⟨_, rfl, ?_⟩) | ((with_reducible refine gate_callee (f := 12) rfl ?_); refine goesL_ (some 10) rfl rfl Try.func12 (by kernel_rfl) rfl #[.int .i64 19, .int .i64 a0] rfl (by (try simp only [List.map_toArray, List.map_cons, List.map_nil]); first | done | rfl | (simp only [List.length_drop, List.length_take]; rfl)) ?_; (with_reducible refine (narrow_Has.calls k 19 a0 false _ A3.out).mono ?_); rintro e w' ⟨rfl, ⟨nd, rfl⟩⟩; refine ⟨_, rfl, ?_⟩) | ((with_reducible refine gate_callee (f := 12) rfl ?_); refine goesL_ (some 12) rfl rfl Try.func12 (by kernel_rfl) rfl #[.int .i64 26, .int .i64 a0] rfl (by (try simp only [List.map_toArray, List.map_cons, List.map_nil]); first | done | rfl | (simp only [List.length_drop, List.length_take]; rfl)) ?_; (with_reducible refine (narrow_Has.calls k 26 a0 true _ A4.out).mono ?_); rintro e w' ⟨rfl, ⟨nd, rfl⟩⟩; refine ⟨_, rfl, ?_⟩) | ((with_reducible refine gate_callee (f := 12) rfl ?_); refine goesL_ (some 14) rfl rfl Try.func12 (by kernel_rfl) rfl #[.int .i64 22, .int .i64 a0] rfl (by (try simp only [List.map_toArray, List.map_cons, List.map_nil]); first | done | rfl | (simp only [List.length_drop, List.length_take]; rfl)) ?_; (with_reducible refine (narrow_Has.calls k 22 a0 true _ A5.out).mono ?_); rintro e w' ⟨rfl, ⟨nd, rfl⟩⟩; refine ⟨_, rfl, ?_⟩) | (go_at_call 12; (with_reducible refine (narrow_Has.calls k 12 a0 false _ A86.out).mono ?_); rintro e w' ⟨rfl, ⟨nd, rfl⟩⟩) | (go_at_call 16; (with_reducible refine (sobriquetlaw15_wakes.calls  t149 _ A88.out).mono ?_); rintro e w89 ⟨rfl, hb⟩; have n0_ := Aside0.mk (below_step (by repeat (first | (with_reducible first | exact HB.out | apply below_alloc | apply pw_below_drewN | apply below_drew1) | exact HB.out)) hb); clear HB; have HB := n0_; clear n0_; (try clear hb); (try clear hb2); (try clear hk); (try clear hi)))
                    go_ret
                    exact ⟨by first | rfl | (simp [errW_none, errW_some] <;> rfl) | (simp [*, errW_none, errW_some] <;> rfl), by repeat (first | (with_reducible first | exact HB.out | apply below_alloc | apply pw_below_drewN | apply below_drew1) | exact HB.out)⟩
                · rw [if_neg c85] at H
                  have c85b0 : (true == false) = false := by simpa using c85
                  (try (have c85b1 : decide (true = false) = false := by simpa using c85))
                  (try (have c85b2 : (true == false) = false := by simpa using c85))
                  (try (have c85b3 : ¬ (true = false) := by simpa using c85))
                  clear c85
                  exact absurd ((Option.some.inj H).trans hrt.out) (by decide)
            · rw [if_neg c78] at H
              have c78b0 : (true == false) = false := by simpa using c78
              (try (have c78b1 : decide (true = false) = false := by simpa using c78))
              (try (have c78b2 : (true == false) = false := by simpa using c78))
              (try (have c78b3 : ¬ (true = false) := by simpa using c78))
              clear c78
              exact absurd ((Option.some.inj H).trans hrt.out) (by decide)
        · replace c64 := Bool.eq_false_iff.mpr c64
          subst c64
          have H1 : (some false) = some r := by rw [if_neg (show ¬ (false = true) by decide)] at H; exact H
          clear H
          have H := H1
          clear H1
          exact absurd ((Option.some.inj H).trans hrt.out) (by decide)
      · replace c63 := Bool.eq_false_iff.mpr c63
        subst c63
        have H1 : (if a0 ≥ 0 then (if (t125 == (decide (a0 < 128))) = true then (if a0 ≥ 32 then (if (false == (decide (a0 < 127))) = true then ((narrow_Has.f k 12 a0).bind fun t150 => (if t150 = true then (some false) else ((sobriquetlaw15_wakes.f).bind fun t151 => (some t151)))) else (some false)) else (if (false == false) = true then ((narrow_Has.f k 12 a0).bind fun t152 => (if t152 = true then (some false) else ((sobriquetlaw15_wakes.f).bind fun t153 => (some t153)))) else (some false))) else (some false)) else (if (t125 == false) = true then (if a0 ≥ 32 then (if (false == (decide (a0 < 127))) = true then ((narrow_Has.f k 12 a0).bind fun t154 => (if t154 = true then (some false) else ((sobriquetlaw15_wakes.f).bind fun t155 => (some t155)))) else (some false)) else (if (false == false) = true then ((narrow_Has.f k 12 a0).bind fun t156 => (if t156 = true then (some false) else ((sobriquetlaw15_wakes.f).bind fun t157 => (some t157)))) else (some false))) else (some false))) = some r := by rw [if_neg (show ¬ (false = true) by decide)] at H; exact H
        clear H
        have H := H1
        clear H1
        by_cases c90 : a0 ≥ 0
        · rw [if_pos c90] at H
          have c90b0 : decide (0 ≤ a0) = true := decide_eq_true c90
          clear c90
          by_cases c91 : (t125 == (decide (a0 < 128))) = true
          · rw [if_pos c91] at H
            have c91b0 : (t125 == (decide (a0 < 128))) = true := c91
            (try (have c91b1 : decide (t125 = (decide (a0 < 128))) = true := by simpa using c91))
            (try (have c91b2 : (t125 == (decide (a0 < 128))) = true := by simpa using c91))
            clear c91
            by_cases c92 : a0 ≥ 32
            · rw [if_pos c92] at H
              have c92b0 : decide (32 ≤ a0) = true := decide_eq_true c92
              clear c92
              by_cases c93 : (false == (decide (a0 < 127))) = true
              · rw [if_pos c93] at H
                have c93b0 : (false == (decide (a0 < 127))) = true := c93
                (try (have c93b1 : decide (false = (decide (a0 < 127))) = true := by simpa using c93))
                (try (have c93b2 : (false == (decide (a0 < 127))) = true := by simpa using c93))
                clear c93
                replace H := Option.bind_eq_some_iff.mp H
                obtain ⟨t150, A940, H⟩ := H
                replace H : (if t150 = true then (some false) else ((sobriquetlaw15_wakes.f).bind fun t151 => (some t151))) = some r := H
                have A94 := Aside0.mk A940
                clear A940
                by_cases c95 : t150 = true
                · subst c95
                  have H1 : (some false) = some r := by rw [if_pos rfl] at H; exact H
                  clear H
                  have H := H1
                  clear H1
                  exact absurd ((Option.some.inj H).trans hrt.out) (by decide)
                · replace c95 := Bool.eq_false_iff.mpr c95
                  subst c95
                  have H1 : ((sobriquetlaw15_wakes.f).bind fun t151 => (some t151)) = some r := by rw [if_neg (show ¬ (false = true) by decide)] at H; exact H
                  clear H
                  have H := H1
                  clear H1
                  replace H := Option.bind_eq_some_iff.mp H
                  obtain ⟨t151, A960, H⟩ := H
                  replace H : (some t151) = some r := H
                  have A96 := Aside0.mk A960
                  clear A960
                  obtain rfl := Option.some.inj H
                  go_enter Try.func6, Try.ntmps6
                  go_wp2_with (first | ((with_reducible refine gate_callee (f := 12) rfl ?_); refine goesL_ (some 8) rfl rfl Try.func12 (by kernel_rfl) rfl #[.int .i64 18, .int .i64 a0] rfl (by (try simp only [List.map_toArray, List.map_cons, List.map_nil]); first | done | rfl | (simp only [List.length_drop, List.length_take]; rfl)) ?_; (with_reducible refine (narrow_Has.calls k 18 a0 false _ A2.out).mono ?_); rintro e w' ⟨rfl, ⟨nd, rfl⟩⟩; refine ⟨_, rfl, ?_⟩) | ((with_reducible refine gate_callee (f := 12) rfl ?_); refine goesL_ (some 10) rfl rfl Try.func12 (by kernel_rfl) rfl #[.int .i64 19, .int .i64 a0] rfl (by (try simp only [List.map_toArray, List.map_cons, List.map_nil]); first | done | rfl | (simp only [List.length_drop, List.length_take]; rfl)) ?_; (with_reducible refine (narrow_Has.calls k 19 a0 false _ A3.out).mono ?_); rintro e w' ⟨rfl, ⟨nd, rfl⟩⟩; refine ⟨_, rfl, ?_⟩) | ((with_reducible refine gate_callee (f := 12) rfl ?_); refine goesL_ (some 12) rfl rfl Try.func12 (by kernel_rfl) rfl #[.int .i64 26, .int .i64 a0] rfl (by (try simp only [List.map_toArray, List.map_cons, List.map_nil]); first | done | rfl | (simp only [List.length_drop, List.length_take]; rfl)) ?_; (with_reducible refine (narrow_Has.calls k 26 a0 false _ A4.out).mono ?_); rintro e w' ⟨rfl, ⟨nd, rfl⟩⟩; refine ⟨_, rfl, ?_⟩) | ((with_reducible refine gate_callee (f := 12) rfl ?_); refine goesL_ (some 14) rfl rfl Try.func12 (by kernel_rfl) rfl #[.int .i64 22, .int .i64 a0] rfl (by (try simp only [List.map_toArray, List.map_cons, List.map_nil]); first | done | rfl | (simp only [List.length_drop, List.length_take]; rfl)) ?_; (with_reducible refine (narrow_Has.calls k 22 a0 t125 _ A5.out).mono ?_); rintro e w' ⟨rfl, ⟨nd, rfl⟩⟩; refine ⟨_, rfl, ?_⟩) | (go_at_call 12; (with_reducible refine (narrow_Has.calls k 12 a0 false _ A94.out).mono ?_); rintro e w' ⟨rfl, ⟨nd, rfl⟩⟩) | (go_at_call 16; (with_reducible refine (sobriquetlaw15_wakes.calls  t151 _ A96.out).mono ?_); rintro e w97 ⟨rfl, hb⟩; have n0_ := Aside0.mk (below_step (by repeat (first | (with_reducible first | exact HB.out | apply below_alloc | apply pw_below_drewN | apply below_drew1) | exact HB.out)) hb); clear HB; have HB := n0_; clear n0_; (try clear hb); (try clear hb2); (try clear hk); (try clear hi)))
                  go_ret
                  exact ⟨by first | rfl | (simp [errW_none, errW_some] <;> rfl) | (simp [*, errW_none, errW_some] <;> rfl), by repeat (first | (with_reducible first | exact HB.out | apply below_alloc | apply pw_below_drewN | apply below_drew1) | exact HB.out)⟩
              · rw [if_neg c93] at H
                have c93b0 : (false == (decide (a0 < 127))) = false := by simpa using c93
                (try (have c93b1 : decide (false = (decide (a0 < 127))) = false := by simpa using c93))
                (try (have c93b2 : (false == (decide (a0 < 127))) = false := by simpa using c93))
                (try (have c93b3 : ¬ (false = (decide (a0 < 127))) := by simpa using c93))
                clear c93
                exact absurd ((Option.some.inj H).trans hrt.out) (by decide)
            · rw [if_neg c92] at H
              have c92b0 : decide (32 ≤ a0) = false := decide_eq_false c92
              clear c92
              by_cases c98 : (false == false) = true
              · rw [if_pos c98] at H
                have c98b0 : (false == false) = true := c98
                (try (have c98b1 : decide (false = false) = true := by simpa using c98))
                (try (have c98b2 : (false == false) = true := by simpa using c98))
                clear c98
                replace H := Option.bind_eq_some_iff.mp H
                obtain ⟨t152, A990, H⟩ := H
                replace H : (if t152 = true then (some false) else ((sobriquetlaw15_wakes.f).bind fun t153 => (some t153))) = some r := H
                have A99 := Aside0.mk A990
                clear A990
                by_cases c100 : t152 = true
                · subst c100
                  have H1 : (some false) = some r := by rw [if_pos rfl] at H; exact H
                  clear H
                  have H := H1
                  clear H1
                  exact absurd ((Option.some.inj H).trans hrt.out) (by decide)
                · replace c100 := Bool.eq_false_iff.mpr c100
                  subst c100
                  have H1 : ((sobriquetlaw15_wakes.f).bind fun t153 => (some t153)) = some r := by rw [if_neg (show ¬ (false = true) by decide)] at H; exact H
                  clear H
                  have H := H1
                  clear H1
                  replace H := Option.bind_eq_some_iff.mp H
                  obtain ⟨t153, A1010, H⟩ := H
                  replace H : (some t153) = some r := H
                  have A101 := Aside0.mk A1010
                  clear A1010
                  obtain rfl := Option.some.inj H
                  go_enter Try.func6, Try.ntmps6
                  go_wp2_with (first | ((with_reducible refine gate_callee (f := 12) rfl ?_); refine goesL_ (some 8) rfl rfl Try.func12 (by kernel_rfl) rfl #[.int .i64 18, .int .i64 a0] rfl (by (try simp only [List.map_toArray, List.map_cons, List.map_nil]); first | done | rfl | (simp only [List.length_drop, List.length_take]; rfl)) ?_; (with_reducible refine (narrow_Has.calls k 18 a0 false _ A2.out).mono ?_); rintro e w' ⟨rfl, ⟨nd, rfl⟩⟩; refine ⟨_, rfl, ?_⟩) | ((with_reducible refine gate_callee (f := 12) rfl ?_); refine goesL_ (some 10) rfl rfl Try.func12 (by kernel_rfl) rfl #[.int .i64 19, .int .i64 a0] rfl (by (try simp only [List.map_toArray, List.map_cons, List.map_nil]); first | done | rfl | (simp only [List.length_drop, List.length_take]; rfl)) ?_; (with_reducible refine (narrow_Has.calls k 19 a0 false _ A3.out).mono ?_); rintro e w' ⟨rfl, ⟨nd, rfl⟩⟩; refine ⟨_, rfl, ?_⟩) | ((with_reducible refine gate_callee (f := 12) rfl ?_); refine goesL_ (some 12) rfl rfl Try.func12 (by kernel_rfl) rfl #[.int .i64 26, .int .i64 a0] rfl (by (try simp only [List.map_toArray, List.map_cons, List.map_nil]); first | done | rfl | (simp only [List.length_drop, List.length_take]; rfl)) ?_; (with_reducible refine (narrow_Has.calls k 26 a0 false _ A4.out).mono ?_); rintro e w' ⟨rfl, ⟨nd, rfl⟩⟩; refine ⟨_, rfl, ?_⟩) | ((with_reducible refine gate_callee (f := 12) rfl ?_); refine goesL_ (some 14) rfl rfl Try.func12 (by kernel_rfl) rfl #[.int .i64 22, .int .i64 a0] rfl (by (try simp only [List.map_toArray, List.map_cons, List.map_nil]); first | done | rfl | (simp only [List.length_drop, List.length_take]; rfl)) ?_; (with_reducible refine (narrow_Has.calls k 22 a0 t125 _ A5.out).mono ?_); rintro e w' ⟨rfl, ⟨nd, rfl⟩⟩; refine ⟨_, rfl, ?_⟩) | (go_at_call 12; (with_reducible refine (narrow_Has.calls k 12 a0 false _ A99.out).mono ?_); rintro e w' ⟨rfl, ⟨nd, rfl⟩⟩) | (go_at_call 16; (with_reducible refine (sobriquetlaw15_wakes.calls  t153 _ A101.out).mono ?_); rintro e w102 ⟨rfl, hb⟩; have n0_ := Aside0.mk (below_step (by repeat (first | (with_reducible first | exact HB.out | apply below_alloc | apply pw_below_drewN | apply below_drew1) | exact HB.out)) hb); clear HB; have HB := n0_; clear n0_; (try clear hb); (try clear hb2); (try clear hk); (try clear hi)))
                  go_ret
                  exact ⟨by first | rfl | (simp [errW_none, errW_some] <;> rfl) | (simp [*, errW_none, errW_some] <;> rfl), by repeat (first | (with_reducible first | exact HB.out | apply below_alloc | apply pw_below_drewN | apply below_drew1) | exact HB.out)⟩
              · rw [if_neg c98] at H
                have c98b0 : (false == false) = false := by simpa using c98
                (try (have c98b1 : decide (false = false) = false := by simpa using c98))
                (try (have c98b2 : (false == false) = false := by simpa using c98))
                (try (have c98b3 : ¬ (false = false) := by simpa using c98))
                clear c98
                exact absurd ((Option.some.inj H).trans hrt.out) (by decide)
          · rw [if_neg c91] at H
            have c91b0 : (t125 == (decide (a0 < 128))) = false := by simpa using c91
            (try (have c91b1 : decide (t125 = (decide (a0 < 128))) = false := by simpa using c91))
            (try (have c91b2 : (t125 == (decide (a0 < 128))) = false := by simpa using c91))
            (try (have c91b3 : ¬ (t125 = (decide (a0 < 128))) := by simpa using c91))
            clear c91
            exact absurd ((Option.some.inj H).trans hrt.out) (by decide)
        · rw [if_neg c90] at H
          have c90b0 : decide (0 ≤ a0) = false := decide_eq_false c90
          clear c90
          by_cases c103 : (t125 == false) = true
          · rw [if_pos c103] at H
            have c103b0 : (t125 == false) = true := c103
            (try (have c103b1 : decide (t125 = false) = true := by simpa using c103))
            (try (have c103b2 : (t125 == false) = true := by simpa using c103))
            clear c103
            by_cases c104 : a0 ≥ 32
            · rw [if_pos c104] at H
              have c104b0 : decide (32 ≤ a0) = true := decide_eq_true c104
              clear c104
              by_cases c105 : (false == (decide (a0 < 127))) = true
              · rw [if_pos c105] at H
                have c105b0 : (false == (decide (a0 < 127))) = true := c105
                (try (have c105b1 : decide (false = (decide (a0 < 127))) = true := by simpa using c105))
                (try (have c105b2 : (false == (decide (a0 < 127))) = true := by simpa using c105))
                clear c105
                replace H := Option.bind_eq_some_iff.mp H
                obtain ⟨t154, A1060, H⟩ := H
                replace H : (if t154 = true then (some false) else ((sobriquetlaw15_wakes.f).bind fun t155 => (some t155))) = some r := H
                have A106 := Aside0.mk A1060
                clear A1060
                by_cases c107 : t154 = true
                · subst c107
                  have H1 : (some false) = some r := by rw [if_pos rfl] at H; exact H
                  clear H
                  have H := H1
                  clear H1
                  exact absurd ((Option.some.inj H).trans hrt.out) (by decide)
                · replace c107 := Bool.eq_false_iff.mpr c107
                  subst c107
                  have H1 : ((sobriquetlaw15_wakes.f).bind fun t155 => (some t155)) = some r := by rw [if_neg (show ¬ (false = true) by decide)] at H; exact H
                  clear H
                  have H := H1
                  clear H1
                  replace H := Option.bind_eq_some_iff.mp H
                  obtain ⟨t155, A1080, H⟩ := H
                  replace H : (some t155) = some r := H
                  have A108 := Aside0.mk A1080
                  clear A1080
                  obtain rfl := Option.some.inj H
                  go_enter Try.func6, Try.ntmps6
                  go_wp2_with (first | ((with_reducible refine gate_callee (f := 12) rfl ?_); refine goesL_ (some 8) rfl rfl Try.func12 (by kernel_rfl) rfl #[.int .i64 18, .int .i64 a0] rfl (by (try simp only [List.map_toArray, List.map_cons, List.map_nil]); first | done | rfl | (simp only [List.length_drop, List.length_take]; rfl)) ?_; (with_reducible refine (narrow_Has.calls k 18 a0 false _ A2.out).mono ?_); rintro e w' ⟨rfl, ⟨nd, rfl⟩⟩; refine ⟨_, rfl, ?_⟩) | ((with_reducible refine gate_callee (f := 12) rfl ?_); refine goesL_ (some 10) rfl rfl Try.func12 (by kernel_rfl) rfl #[.int .i64 19, .int .i64 a0] rfl (by (try simp only [List.map_toArray, List.map_cons, List.map_nil]); first | done | rfl | (simp only [List.length_drop, List.length_take]; rfl)) ?_; (with_reducible refine (narrow_Has.calls k 19 a0 false _ A3.out).mono ?_); rintro e w' ⟨rfl, ⟨nd, rfl⟩⟩; refine ⟨_, rfl, ?_⟩) | ((with_reducible refine gate_callee (f := 12) rfl ?_); refine goesL_ (some 12) rfl rfl Try.func12 (by kernel_rfl) rfl #[.int .i64 26, .int .i64 a0] rfl (by (try simp only [List.map_toArray, List.map_cons, List.map_nil]); first | done | rfl | (simp only [List.length_drop, List.length_take]; rfl)) ?_; (with_reducible refine (narrow_Has.calls k 26 a0 false _ A4.out).mono ?_); rintro e w' ⟨rfl, ⟨nd, rfl⟩⟩; refine ⟨_, rfl, ?_⟩) | ((with_reducible refine gate_callee (f := 12) rfl ?_); refine goesL_ (some 14) rfl rfl Try.func12 (by kernel_rfl) rfl #[.int .i64 22, .int .i64 a0] rfl (by (try simp only [List.map_toArray, List.map_cons, List.map_nil]); first | done | rfl | (simp only [List.length_drop, List.length_take]; rfl)) ?_; (with_reducible refine (narrow_Has.calls k 22 a0 t125 _ A5.out).mono ?_); rintro e w' ⟨rfl, ⟨nd, rfl⟩⟩; refine ⟨_, rfl, ?_⟩) | (go_at_call 12; (with_reducible refine (narrow_Has.calls k 12 a0 false _ A106.out).mono ?_); rintro e w' ⟨rfl, ⟨nd, rfl⟩⟩) | (go_at_call 16; (with_reducible refine (sobriquetlaw15_wakes.calls  t155 _ A108.out).mono ?_); rintro e w109 ⟨rfl, hb⟩; have n0_ := Aside0.mk (below_step (by repeat (first | (with_reducible first | exact HB.out | apply below_alloc | apply pw_below_drewN | apply below_drew1) | exact HB.out)) hb); clear HB; have HB := n0_; clear n0_; (try clear hb); (try clear hb2); (try clear hk); (try clear hi)))
                  go_ret
                  exact ⟨by first | rfl | (simp [errW_none, errW_some] <;> rfl) | (simp [*, errW_none, errW_some] <;> rfl), by repeat (first | (with_reducible first | exact HB.out | apply below_alloc | apply pw_below_drewN | apply below_drew1) | exact HB.out)⟩
              · rw [if_neg c105] at H
                have c105b0 : (false == (decide (a0 < 127))) = false := by simpa using c105
                (try (have c105b1 : decide (false = (decide (a0 < 127))) = false := by simpa using c105))
                (try (have c105b2 : (false == (decide (a0 < 127))) = false := by simpa using c105))
                (try (have c105b3 : ¬ (false = (decide (a0 < 127))) := by simpa using c105))
                clear c105
                exact absurd ((Option.some.inj H).trans hrt.out) (by decide)
            · rw [if_neg c104] at H
              have c104b0 : decide (32 ≤ a0) = false := decide_eq_false c104
              clear c104
              by_cases c110 : (false == false) = true
              · rw [if_pos c110] at H
                have c110b0 : (false == false) = true := c110
                (try (have c110b1 : decide (false = false) = true := by simpa using c110))
                (try (have c110b2 : (false == false) = true := by simpa using c110))
                clear c110
                replace H := Option.bind_eq_some_iff.mp H
                obtain ⟨t156, A1110, H⟩ := H
                replace H : (if t156 = true then (some false) else ((sobriquetlaw15_wakes.f).bind fun t157 => (some t157))) = some r := H
                have A111 := Aside0.mk A1110
                clear A1110
                by_cases c112 : t156 = true
                · subst c112
                  have H1 : (some false) = some r := by rw [if_pos rfl] at H; exact H
                  clear H
                  have H := H1
                  clear H1
                  exact absurd ((Option.some.inj H).trans hrt.out) (by decide)
                · replace c112 := Bool.eq_false_iff.mpr c112
                  subst c112
                  have H1 : ((sobriquetlaw15_wakes.f).bind fun t157 => (some t157)) = some r := by rw [if_neg (show ¬ (false = true) by decide)] at H; exact H
                  clear H
                  have H := H1
                  clear H1
                  replace H := Option.bind_eq_some_iff.mp H
                  obtain ⟨t157, A1130, H⟩ := H
                  replace H : (some t157) = some r := H
                  have A113 := Aside0.mk A1130
                  clear A1130
                  obtain rfl := Option.some.inj H
                  go_enter Try.func6, Try.ntmps6
                  go_wp2_with (first | ((with_reducible refine gate_callee (f := 12) rfl ?_); refine goesL_ (some 8) rfl rfl Try.func12 (by kernel_rfl) rfl #[.int .i64 18, .int .i64 a0] rfl (by (try simp only [List.map_toArray, List.map_cons, List.map_nil]); first | done | rfl | (simp only [List.length_drop, List.length_take]; rfl)) ?_; (with_reducible refine (narrow_Has.calls k 18 a0 false _ A2.out).mono ?_); rintro e w' ⟨rfl, ⟨nd, rfl⟩⟩; refine ⟨_, rfl, ?_⟩) | ((with_reducible refine gate_callee (f := 12) rfl ?_); refine goesL_ (some 10) rfl rfl Try.func12 (by kernel_rfl) rfl #[.int .i64 19, .int .i64 a0] rfl (by (try simp only [List.map_toArray, List.map_cons, List.map_nil]); first | done | rfl | (simp only [List.length_drop, List.length_take]; rfl)) ?_; (with_reducible refine (narrow_Has.calls k 19 a0 false _ A3.out).mono ?_); rintro e w' ⟨rfl, ⟨nd, rfl⟩⟩; refine ⟨_, rfl, ?_⟩) | ((with_reducible refine gate_callee (f := 12) rfl ?_); refine goesL_ (some 12) rfl rfl Try.func12 (by kernel_rfl) rfl #[.int .i64 26, .int .i64 a0] rfl (by (try simp only [List.map_toArray, List.map_cons, List.map_nil]); first | done | rfl | (simp only [List.length_drop, List.length_take]; rfl)) ?_; (with_reducible refine (narrow_Has.calls k 26 a0 false _ A4.out).mono ?_); rintro e w' ⟨rfl, ⟨nd, rfl⟩⟩; refine ⟨_, rfl, ?_⟩) | ((with_reducible refine gate_callee (f := 12) rfl ?_); refine goesL_ (some 14) rfl rfl Try.func12 (by kernel_rfl) rfl #[.int .i64 22, .int .i64 a0] rfl (by (try simp only [List.map_toArray, List.map_cons, List.map_nil]); first | done | rfl | (simp only [List.length_drop, List.length_take]; rfl)) ?_; (with_reducible refine (narrow_Has.calls k 22 a0 t125 _ A5.out).mono ?_); rintro e w' ⟨rfl, ⟨nd, rfl⟩⟩; refine ⟨_, rfl, ?_⟩) | (go_at_call 12; (with_reducible refine (narrow_Has.calls k 12 a0 false _ A111.out).mono ?_); rintro e w' ⟨rfl, ⟨nd, rfl⟩⟩) | (go_at_call 16; (with_reducible refine (sobriquetlaw15_wakes.calls  t157 _ A113.out).mono ?_); rintro e w114 ⟨rfl, hb⟩; have n0_ := Aside0.mk (below_step (by repeat (first | (with_reducible first | exact HB.out | apply below_alloc | apply pw_below_drewN | apply below_drew1) | exact HB.out)) hb); clear HB; have HB := n0_; clear n0_; (try clear hb); (try clear hb2); (try clear hk); (try clear hi)))
                  go_ret
                  exact ⟨by first | rfl | (simp [errW_none, errW_some] <;> rfl) | (simp [*, errW_none, errW_some] <;> rfl), by repeat (first | (with_reducible first | exact HB.out | apply below_alloc | apply pw_below_drewN | apply below_drew1) | exact HB.out)⟩
              · rw [if_neg c110] at H
                have c110b0 : (false == false) = false := by simpa using c110
                (try (have c110b1 : decide (false = false) = false := by simpa using c110))
                (try (have c110b2 : (false == false) = false := by simpa using c110))
                (try (have c110b3 : ¬ (false = false) := by simpa using c110))
                clear c110
                exact absurd ((Option.some.inj H).trans hrt.out) (by decide)
          · rw [if_neg c103] at H
            have c103b0 : (t125 == false) = false := by simpa using c103
            (try (have c103b1 : decide (t125 = false) = false := by simpa using c103))
            (try (have c103b2 : (t125 == false) = false := by simpa using c103))
            (try (have c103b3 : ¬ (t125 = false) := by simpa using c103))
            clear c103
            exact absurd ((Option.some.inj H).trans hrt.out) (by decide)

/-- THE ONE PURE STATEMENT of sobriquetlaw15_NarrowIn: yours. -/
def sobriquetlaw15_NarrowIn.Pure : Prop := ∀ (a0 : Int), (Lit.int .i64 a0).wf = true → ∃ k, sobriquetlaw15_NarrowIn.f k a0 = some true
theorem sobriquetlaw15_NarrowIn.walk (P : sobriquetlaw15_NarrowIn.Pure) (a0 : Int) (w : World) (w0 : (Lit.int .i64 a0).wf = true) :
    Calls Try.prog 6 #[.int .i64 a0] w fun e w' => e = .returned (.bool true) ∧ Below w.heap.size w w' := by
  obtain ⟨k, h⟩ := P a0 w0
  refine (sobriquetlaw15_NarrowIn.calls k a0 true w h rfl).mono ?_
  rintro e w' ⟨rfl, hd⟩
  exact ⟨rfl, hd⟩

end Go.Proofs.Ytklgifnkoeadpaa.MNarrowIn
