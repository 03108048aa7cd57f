/- The engine's Kinds, over Find. -/
import Derived.Test.YteclbjjdhckgoaaTi
namespace Go.Proofs.Yteclbjjdhckgoaa.Tb
open Go.Proofs.YteclbjjdhckgoaaW.PrintWords Go.Proofs.YteclbjjdhckgoaaW.PrintLast Go.Proofs.YteclbjjdhckgoaaW.PrintMore
open Go.RowKit Go.Proofs Go.Proofs.Yteclbjjdhckgoaa.LAttrExact
set_option linter.unusedVariables false
set_option linter.unusedSimpArgs false
set_option maxRecDepth 100000 in
set_option maxHeartbeats 8000000 in
theorem Kinds_calls (w0 w : World) (G : Nat) (A : Option Addr) (c : Nat) (hG : GAt w0 G A c) (A0 : Option Addr) (c0 : Nat) (l0 : List Int) (hr0 : Kd.C (Kd.int .i64) w0 A0 l0.length l0) (hc0 : l0.length ≤ c0) (hl : l0.length ≤ 1000) (hw : Below w0.heap.size w0 w) :
    Calls Try.prog 21 #[.pointer (some ⟨G, 0, none⟩), .slice A0 l0.length c0] w fun e w' => ∃ (B : Option Addr) (b : Nat), e = .returned (.slice B (eKinds l0).length b) ∧ (eKinds l0).length ≤ b ∧ Kd.C (Kd.int .i64) w' B (eKinds l0).length (eKinds l0) ∧ Below w.heap.size w w' := by
  obtain ⟨B0, b0, B3, b3, _, hK, hF⟩ := Find_calls w0 G A c hG A0 c0 l0 hr0 hc0 hl
  have hF := hF w hw
  obtain ⟨X, hX⟩ : ∃ X, (eFindO l0).getD z27 = X := ⟨_, rfl⟩
  rw [hX] at hF hK
  go_enter Try.func21, Try.ntmps21
  cases ho : eFindO l0 with
  | none =>
    have e2 : eFind l0 = false := by unfold eFind; rw [ho]; rfl
    have e3 : eKinds l0 = [12] := by unfold eKinds; rw [ho]
    rw [e2] at hF
    rw [e3]
    go_wp2_with (first | ((with_reducible refine gate_dst (N := 16) rfl ?_); refine Kd.R_lit (Kd.int .i64) (w0 := w) w.heap.size 3 rfl (N := 16) rfl (xs := ([12] : List Int)) (inner := [.int .i64 12]) (ok := fun _ => True) (okp := fun _ => True) (by first | (go_simp; done) | (go_simp; rfl)) (Reps.one (show Kd.M (Kd.int .i64) _ _ _ 12 [.int .i64 12] from rfl) (Reps.none _ _)) (fun _ hk => hk) trivial (by repeat (first | (with_reducible first | exact HC.out | refine below_set ?_ hgw) | exact HC.out)) (below_size (by repeat (first | (with_reducible first | exact HC.out | refine below_set ?_ hgw) | exact HC.out))) (by simp) ?_; intro v_ w_ ho hb _ _; obtain ⟨Bn, bn, rfl, hbn, hcn⟩ := Kd.R_reads ho; have HN := Aside0.mk hcn; have HN2 := Aside0.mk hbn; clear HC; have HC := Aside0.mk hb; clear hb ho hcn) | (go_at_call 18; refine hF.mono ?_; rintro e w_ ⟨rfl, hb⟩; have HB := Aside0.mk hb; clear hb) | ((with_reducible refine gate_dst (N := 5) rfl ?_); refine box_event ?hg (N := 5) ?hd (cs := #[.slice none 0 0, .string (⟨#[]⟩ : ByteArray), .int .i64 0, .slice none 0 0]) (t := 27) ?hr ?_; (case hd => rfl); (case hg => rfl); (case hr => first | (go_simp; done) | (go_simp; rfl)); intro gb hg w1 hbox hb; have hgw : w.heap.size ≤ gb := Nat.le_trans (below_size HB.out) (Nat.le_of_eq hg.symm); have z0 : w1.cell? ⟨gb, 0, none⟩ = some (.slice none 0 0) := (blk_cell hbox 0).trans rfl; have z1 : w1.cell? ⟨gb, 1, none⟩ = some (.string (⟨#[]⟩ : ByteArray)) := (blk_cell hbox 1).trans rfl; have z2 : w1.cell? ⟨gb, 2, none⟩ = some (.int .i64 0) := (blk_cell hbox 2).trans rfl; have z3 : w1.cell? ⟨gb, 3, none⟩ = some (.slice none 0 0) := (blk_cell hbox 3).trans rfl; have y0 := blk_frozen hbox 0; have y1 := blk_frozen hbox 1; have y2 := blk_frozen hbox 2; have y3 := blk_frozen hbox 3; have HC := Aside0.mk (below_step HB.out hb); clear hb hbox hg HB))
    go_ret
    exact ⟨_, _, rfl, HN2.out, HN.out, HC.out⟩
  | some Y =>
    have e2 : eFind l0 = true := by unfold eFind; rw [ho]; rfl
    have e3 : eKinds l0 = Y.f3 := by unfold eKinds; rw [ho]
    have e4 : X = Y := by rw [← hX, ho]; rfl
    subst e4
    rw [e2] at hF
    rw [e3]
    go_wp2_with (first | (go_at_call 18; refine hF.mono ?_; rintro e w_ ⟨rfl, hb⟩; have HB := Aside0.mk hb; clear hb) | ((with_reducible refine gate_dst (N := 5) rfl ?_); refine box_event ?hg (N := 5) ?hd (cs := #[.slice none 0 0, .string (⟨#[]⟩ : ByteArray), .int .i64 0, .slice none 0 0]) (t := 27) ?hr ?_; (case hd => rfl); (case hg => rfl); (case hr => first | (go_simp; done) | (go_simp; rfl)); intro gb hg w1 hbox hb; have hgw : w.heap.size ≤ gb := Nat.le_trans (below_size HB.out) (Nat.le_of_eq hg.symm); have z0 : w1.cell? ⟨gb, 0, none⟩ = some (.slice none 0 0) := (blk_cell hbox 0).trans rfl; have z1 : w1.cell? ⟨gb, 1, none⟩ = some (.string (⟨#[]⟩ : ByteArray)) := (blk_cell hbox 1).trans rfl; have z2 : w1.cell? ⟨gb, 2, none⟩ = some (.int .i64 0) := (blk_cell hbox 2).trans rfl; have z3 : w1.cell? ⟨gb, 3, none⟩ = some (.slice none 0 0) := (blk_cell hbox 3).trans rfl; have y0 := blk_frozen hbox 0; have y1 := blk_frozen hbox 1; have y2 := blk_frozen hbox 2; have y3 := blk_frozen hbox 3; have HC := Aside0.mk (below_step HB.out hb); clear hb hbox hg HB))
    go_ret
    refine ⟨_, _, rfl, hK.1, Kd.C_below hK.2 (below_step hw ?_), ?_⟩ <;> repeat (first | (with_reducible first | exact HC.out | refine below_set ?_ hgw) | exact HC.out)
end Go.Proofs.Yteclbjjdhckgoaa.Tb
