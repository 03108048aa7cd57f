/- The remaining tables, told weakly. -/
import Derived.Test.YteclbjjdhckgoaaTb
namespace Go.Proofs.Yteclbjjdhckgoaa.Tb
open Go.Proofs.YteclbjjdhckgoaaW.PrintWords Go.Proofs.YteclbjjdhckgoaaW.PrintLast Go.Proofs.YteclbjjdhckgoaaW.PrintMore
open Go.RowKit Go.Proofs
set_option linter.unusedVariables false
set_option linter.unusedSimpArgs false
set_option maxRecDepth 100000 in
set_option maxHeartbeats 8000000 in
theorem Excluded_calls (w : World) : Calls Try.prog 35 #[] w fun e w' => ∃ (A : Option Addr) (n c : Nat), e = .returned (.slice A n c) ∧ Below w.heap.size w w' := by
  have HB := Aside0.mk (Below.refl w.heap.size w)
  go_enter Try.func35, Try.ntmps35
  go_wp2_with ((with_reducible refine gate_bs (t := 25) rfl ?_); refine lit_any (w0 := w) w.heap.size 3 rfl ⟨_, _, by go_simp; first | rfl | exact ⟨rfl, rfl⟩⟩ HB.out (below_size HB.out) ?_; clear HB; intro b_ n_ w_ hb_; have HB := Aside0.mk hb_; clear hb_)
  go_ret
  exact ⟨_, _, _, rfl, HB.out⟩
set_option maxRecDepth 100000 in
set_option maxHeartbeats 8000000 in
theorem Sets_calls (w : World) : Calls Try.prog 39 #[] w fun e w' => ∃ (A : Option Addr) (n c : Nat), e = .returned (.slice A n c) ∧ Below w.heap.size w w' := by
  have HB := Aside0.mk (Below.refl w.heap.size w)
  go_enter Try.func39, Try.ntmps39
  go_wp2_with ((with_reducible refine gate_bs (t := 25) rfl ?_); refine lit_any (w0 := w) w.heap.size 3 rfl ⟨_, _, by go_simp; first | rfl | exact ⟨rfl, rfl⟩⟩ HB.out (below_size HB.out) ?_; clear HB; intro b_ n_ w_ hb_; have HB := Aside0.mk hb_; clear hb_)
  go_ret
  exact ⟨_, _, _, rfl, HB.out⟩
set_option maxRecDepth 100000 in
set_option maxHeartbeats 8000000 in
theorem Accents_calls (w : World) : Calls Try.prog 38 #[] w fun e w' => ∃ (A : Option Addr) (n c : Nat), e = .returned (.slice A n c) ∧ Below w.heap.size w w' := by
  have HB := Aside0.mk (Below.refl w.heap.size w)
  go_enter Try.func38, Try.ntmps38
  go_wp2_with ((with_reducible refine gate_bs (t := 53) rfl ?_); refine lit_any (w0 := w) w.heap.size 66 rfl ⟨_, _, by go_simp; first | rfl | exact ⟨rfl, rfl⟩⟩ HB.out (below_size HB.out) ?_; clear HB; intro b_ n_ w_ hb_; have HB := Aside0.mk hb_; clear hb_)
  go_ret
  exact ⟨_, _, _, rfl, HB.out⟩
set_option maxRecDepth 100000 in
set_option maxHeartbeats 8000000 in
theorem Classes_calls (w : World) : Calls Try.prog 36 #[] w fun e w' => ∃ (A : Option Addr) (n c : Nat), e = .returned (.slice A n c) ∧ Below w.heap.size w w' := by
  have HB := Aside0.mk (Below.refl w.heap.size w)
  go_enter Try.func36, Try.ntmps36
  go_wp2_with ((with_reducible refine gate_bs (t := 58) rfl ?_); refine lit_any (w0 := w) w.heap.size 75 rfl ⟨_, _, by go_simp; first | rfl | exact ⟨rfl, rfl⟩⟩ HB.out (below_size HB.out) ?_; clear HB; intro b_ n_ w_ hb_; have HB := Aside0.mk hb_; clear hb_)
  go_ret
  exact ⟨_, _, _, rfl, HB.out⟩
end Go.Proofs.Yteclbjjdhckgoaa.Tb
