/- All the tables: that New ends, and what it hands back: a pointer to a block whose third cell is the row of the attributes. -/
import Derived.Test.YteclbjjdhckgoaaTd
import Derived.Test.YteclbjjdhckgoaaTe
import Derived.Test.YteclbjjdhckgoaaTt
namespace Go.Proofs.Yteclbjjdhckgoaa.Tb
open Go.Proofs.YteclbjjdhckgoaaW.PrintWords Go.Proofs.YteclbjjdhckgoaaW.PrintLast Go.Proofs.YteclbjjdhckgoaaW.PrintMore
open Go.RowKit Go.Proofs
set_option linter.unusedVariables false
set_option linter.unusedSimpArgs false
theorem Canon_some : (Tt.api_Canon.f 400).isSome = true := by decide +kernel
theorem Canon_calls (w : World) : Calls Try.prog 32 #[] w fun e w' => ∃ (A : Option Addr) (n c : Nat), e = .returned (.slice A n c) ∧ Below w.heap.size w w' := by
  obtain ⟨r, hr⟩ := Option.isSome_iff_exists.1 Canon_some
  refine (Tt.api_Canon.calls 400 r w hr).mono ?_
  rintro e w' ⟨v, rfl, h, hb⟩
  obtain ⟨A, c, rfl⟩ := Kd.R_slice h
  exact ⟨A, _, c, rfl, hb⟩
set_option maxRecDepth 100000 in
set_option maxHeartbeats 4000000 in
theorem All_calls (w : World) : Calls Try.prog 27 #[] w fun e w' => ∃ g : Nat, e = .returned (.pointer (some ⟨g, 0, none⟩)) ∧ Below w.heap.size w w' := by
  have HB := Aside0.mk (Below.refl w.heap.size w)
  go_enter Try.func27, Try.ntmps27
  go_wp2_with (first | (go_at_call 32; refine (Canon_calls _).mono ?_; rintro e w_ ⟨A32, n32, c32, rfl, hb⟩; have n_ := Aside0.mk (below_step HB.out hb); clear HB hb; have HB := n_; clear n_) | (go_at_call 33; refine (Compat_calls _).mono ?_; rintro e w_ ⟨A33, n33, c33, rfl, hb⟩; have n_ := Aside0.mk (below_step HB.out hb); clear HB hb; have HB := n_; clear n_) | (go_at_call 34; refine (Folds_calls _).mono ?_; rintro e w_ ⟨A34, n34, c34, rfl, hb⟩; have n_ := Aside0.mk (below_step HB.out hb); clear HB hb; have HB := n_; clear n_) | (go_at_call 35; refine (Excluded_calls _).mono ?_; rintro e w_ ⟨A35, n35, c35, rfl, hb⟩; have n_ := Aside0.mk (below_step HB.out hb); clear HB hb; have HB := n_; clear n_) | (go_at_call 36; refine (Classes_calls _).mono ?_; rintro e w_ ⟨A36, n36, c36, rfl, hb⟩; have n_ := Aside0.mk (below_step HB.out hb); clear HB hb; have HB := n_; clear n_) | ((with_reducible refine gate_dst (N := 7) rfl ?_); refine box_event ?hg (N := 7) ?hd (cs := #[.slice A32 n32 c32, .slice A33 n33 c33, .slice A34 n34 c34, .slice A35 n35 c35, .slice A36 n36 c36]) (t := 61) ?hr ?_; (case hd => rfl); (case hg => rfl); (case hr => first | (go_simp; done) | (go_simp; rfl)); intro g hg w1 hbox hb; have n_ := Aside0.mk (below_step HB.out hb); clear HB hb hg hbox; have HB := n_; clear n_))
  go_ret
  exact ⟨_, rfl, HB.out⟩
set_option maxRecDepth 100000 in
set_option maxHeartbeats 4000000 in
theorem AllSets_calls (w : World) : Calls Try.prog 28 #[] w fun e w' => ∃ g : Nat, e = .returned (.pointer (some ⟨g, 0, none⟩)) ∧ Below w.heap.size w w' := by
  have HB := Aside0.mk (Below.refl w.heap.size w)
  go_enter Try.func28, Try.ntmps28
  go_wp2_with (first | (go_at_call 37; refine (Codes_calls _).mono ?_; rintro e w_ ⟨A37, n37, c37, rfl, hb⟩; have n_ := Aside0.mk (below_step HB.out hb); clear HB hb; have HB := n_; clear n_) | (go_at_call 38; refine (Accents_calls _).mono ?_; rintro e w_ ⟨A38, n38, c38, rfl, hb⟩; have n_ := Aside0.mk (below_step HB.out hb); clear HB hb; have HB := n_; clear n_) | (go_at_call 39; refine (Sets_calls _).mono ?_; rintro e w_ ⟨A39, n39, c39, rfl, hb⟩; have n_ := Aside0.mk (below_step HB.out hb); clear HB hb; have HB := n_; clear n_) | (go_at_call 27; refine (All_calls _).mono ?_; rintro e w_ ⟨g27, rfl, hb⟩; have n_ := Aside0.mk (below_step HB.out hb); clear HB hb; have HB := n_; clear n_) | ((with_reducible refine gate_dst (N := 6) rfl ?_); refine box_event ?hg (N := 6) ?hd (cs := #[.slice A37 n37 c37, .slice A38 n38 c38, .slice A39 n39 c39, .pointer (some ⟨g27, 0, none⟩)]) (t := 65) ?hr ?_; (case hd => rfl); (case hg => rfl); (case hr => first | (go_simp; done) | (go_simp; rfl)); intro g hg w1 hbox hb; have n_ := Aside0.mk (below_step HB.out hb); clear HB hb hg hbox; have HB := n_; clear n_))
  go_ret
  exact ⟨_, rfl, HB.out⟩
end Go.Proofs.Yteclbjjdhckgoaa.Tb
