/- New: what it hands back. -/
import Derived.Test.YteclbjjdhckgoaaTf
import Derived.Test.YteclbjjdhckgoaaTg
namespace Go.Proofs.Yteclbjjdhckgoaa.Tb
open Go.Proofs.YteclbjjdhckgoaaW.PrintWords Go.Proofs.YteclbjjdhckgoaaW.PrintLast Go.Proofs.YteclbjjdhckgoaaW.PrintMore
open Go.RowKit Go.Proofs Go.Proofs.Yteclbjjdhckgoaa.LAttrExact
set_option linter.unusedVariables false
set_option linter.unusedSimpArgs false
/-- The pointer's block holds, behind two pointers, the row of the attributes. -/
def GAt (w : World) (G : Nat) (A : Option Addr) (c : Nat) : Prop := (∃ g1 g2 : Nat, w.heap[G]? = some (.cells #[.pointer (some ⟨g1, 0, none⟩), .pointer (some ⟨g2, 0, none⟩), .slice A attrsL.length c] 50 (0, 0))) ∧ attrsL.length ≤ c ∧ Kd.C k27 w A attrsL.length attrsL
set_option maxRecDepth 100000 in
set_option maxHeartbeats 4000000 in
theorem New_calls (w : World) : Calls Try.prog 17 #[] w fun e w' => ∃ (G : Nat) (A : Option Addr) (c : Nat), e = .returned (.pointer (some ⟨G, 0, none⟩)) ∧ GAt w' G A c ∧ Below w.heap.size w w' := by
  have HB := Aside0.mk (Below.refl w.heap.size w)
  go_enter Try.func17, Try.ntmps17
  go_wp2_with (first | (go_at_call 27; refine (All_calls _).mono ?_; rintro e w_ ⟨g1, rfl, hb⟩; have n_ := Aside0.mk (below_step HB.out hb); clear HB hb; have HB := n_; clear n_) | (go_at_call 28; refine (AllSets_calls _).mono ?_; rintro e w_ ⟨g2, rfl, hb⟩; have n_ := Aside0.mk (below_step HB.out hb); clear HB hb; have HB := n_; clear n_) | (go_at_call 7; refine (api_Attrs.calls attrsL _ attrs_f).mono ?_; rintro e w_ ⟨va, rfl, ho, hb⟩; obtain ⟨A, c, rfl⟩ := Kd.R_slice ho; have HO := Aside0.mk (Kd.R_reads' ho); have n_ := Aside0.mk (below_step HB.out hb); clear HB hb ho; have HB := n_; clear n_) | ((with_reducible refine gate_dst (N := 5) rfl ?_); refine box_event ?hg (N := 5) ?hd (cs := #[.pointer (some ⟨g1, 0, none⟩), .pointer (some ⟨g2, 0, none⟩), .slice A attrsL.length c]) (t := 50) ?hr ?_; (case hd => rfl); (case hg => rfl); (case hr => first | (go_simp; done) | (go_simp; rfl)); intro G hg w1 hbox hb; have HC := Aside0.mk (Kd.C_below HO.out.2.2 hb); have HL := Aside0.mk HO.out.2.1; have BK := Aside0.mk hbox; have n_ := Aside0.mk (below_step HB.out hb); clear HB hb hg hbox HO; have HB := n_; clear n_))
  go_ret
  exact ⟨_, _, _, rfl, ⟨⟨_, _, BK.out⟩, HL.out, HC.out⟩, HB.out⟩
/-- It stays while what lies below stays. -/
theorem GAt_below {w w1 : World} {G : Nat} {A : Option Addr} {c : Nat} (h : GAt w G A c) (hb : Below w.heap.size w w1) : GAt w1 G A c := by
  obtain ⟨⟨g1, g2, h1⟩, h2, h3⟩ := h
  exact ⟨⟨g1, g2, blk_below h1 hb⟩, h2, Kd.C_below h3 hb⟩
end Go.Proofs.Yteclbjjdhckgoaa.Tb
