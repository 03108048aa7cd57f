/- Contracts of one and of Tokens. -/
import Derived.Test.YtbgmblpgdaociaaB4
namespace Go.Proofs.Ytbgmblpgdaociaa.Base
open Go.RowKit Go.Proofs.YtbgmblpgdaociaaW.PrintWords Go.Proofs.YtbgmblpgdaociaaW.PrintLast Go.Proofs.YtbgmblpgdaociaaW.PrintMore
set_option linter.unusedVariables false
set_option linter.unusedSimpArgs false
set_option linter.unnecessarySimpa false

theorem row5 (w : World) (e : Nat) (q : Nat × Nat) (l : List Int) : Kd.C (Kd.int .i64) (w.alloc (.cells (l.map (Value.int .i64)).toArray e q)) (some ⟨w.heap.size, 0, none⟩) l.length l ∨ 9223372036854775807 < l.length := by
  by_cases hb : l.length ≤ 9223372036854775807
  · left
    refine Kd.C_of_reads (enc := Value.int .i64) (d := 0) (h1 := fun _ => rfl) ⟨rfl, hb, fun _ => ⟨_, rfl, fun j hj => ?_⟩⟩
    rw [add_plain]
    have hh : (w.alloc (.cells (l.map (Value.int .i64)).toArray e q)).heap[w.heap.size]? = some (.cells (l.map (Value.int .i64)).toArray e q) := by
      show (w.heap.push _)[w.heap.size]? = _
      simp
    unfold World.cell?
    rw [hh]
    simp [List.getD_eq_getElem?_getD, List.getElem?_eq_getElem hj]
  · right; omega
theorem contains_all : ∀ c ∈ (List.range 256), slices_Contains_int_int.f 10 [32, 8, 10, 12, 13] (c : Int) = some (decide ((c : Int) = 32 ∨ (c : Int) = 8 ∨ (c : Int) = 10 ∨ (c : Int) = 12 ∨ (c : Int) = 13)) := by decide +kernel
theorem contains_calls (w : World) (c : Int) (h0 : 0 ≤ c) (h1 : c ≤ 255) :
    Calls Try.prog 17 #[.slice (some ⟨w.heap.size, 0, none⟩) 5 5, .int .i64 c] (w.alloc (.cells #[.int .i64 32, .int .i64 8, .int .i64 10, .int .i64 12, .int .i64 13] 3)) fun e w' => e = .returned (.bool (decide (c = 32 ∨ c = 8 ∨ c = 10 ∨ c = 12 ∨ c = 13))) ∧ Drawn0 (w.alloc (.cells #[.int .i64 32, .int .i64 8, .int .i64 10, .int .i64 12, .int .i64 13] 3)) w' := by
  have hr := (row5 w 3 (0, 0) [32, 8, 10, 12, 13]).resolve_right (by simp)
  obtain ⟨m, rfl⟩ := Int.eq_ofNat_of_zero_le h0
  exact slices_Contains_int_int.calls 10 _ 5 [32, 8, 10, 12, 13] (m : Int) _ _ hr (Nat.le_refl _) (contains_all m (by simp; omega))

set_option maxHeartbeats 8000000 in
set_option maxRecDepth 100000 in
theorem one_calls (w0 w : World) (R : Nat) (l : List Int) (s : Rd) (h : IsR w0 w R l s) (hg : Good l s) (hi : s.i < l.length) :
    Calls Try.prog 14 #[.pointer (some ⟨R, 0, none⟩)] w (PostE w0 R l (oneP l s).1 (oneP l s).2) := by
  have H := Aside0.mk h
  unfold oneP
  have hgn := next_good hg
  have hb := next_byte hg
  obtain ⟨q, hN⟩ : ∃ q, nextP l s = q := ⟨_, rfl⟩
  obtain ⟨c, er, s1⟩ := q
  have HN := Aside0.mk (postN_next (w0 := w0) (R := R) hg hN)
  have he : er = 0 := by
    unfold nextP at hN
    rw [if_neg (by omega)] at hN
    simp only [Prod.mk.injEq] at hN
    exact hN.2.1.symm
  subst he
  have hz := next_zero hg hN rfl
  rw [hN] at hgn hb ⊢
  dsimp only at hgn hb ⊢
  obtain ⟨b0, b1⟩ := hb
  have hout : s1.out.length ≤ 1000000 := by have := hgn.o; have := hgn.i1; have := hgn.n; omega
  have HCt := Aside0.mk (fun W => contains_calls W c b0 b1)
  have hu22 := Try.underlying22
  clear h hN hg hi
  by_cases cS : c = 32 ∨ c = 8 ∨ c = 10 ∨ c = 12 ∨ c = 13
  · rw [if_pos cS]
    have zS : decide (c = 32 ∨ c = 8 ∨ c = 10 ∨ c = 12 ∨ c = 13) = true := decide_eq_true cS
    rw [zS] at HCt
    clear cS zS hgn
    go_enter Try.func14, Try.ntmps14
    go_upto_region 4 with (first
      | (go_at_call 16; (with_reducible refine (HN.out _ H.out).mono ?_); rintro e w3 ⟨rfl, h3⟩; have H3 := Aside0.mk h3; clear h3)
      | (go_at_call 17; (with_reducible refine (HCt.out _).mono ?_); rintro e w4 ⟨rfl, ⟨n4, rfl⟩⟩))
    have H5 := Aside0.mk (isR_below H3.out (pw_below_drewN (below_alloc (Below.refl w3.heap.size w3) (.cells #[.int .i64 32, .int .i64 8, .int .i64 10, .int .i64 12, .int .i64 13] 3)) n4))
    clear H3
    generalize (w3.alloc (.cells #[.int .i64 32, .int .i64 8, .int .i64 10, .int .i64 12, .int .i64 13] 3)).drewN n4 = w5 at H5 ⊢
    obtain ⟨A, cc, v, b1', b2, b3, b4, b5⟩ := H5.out
    have x8 : w5.cell? ⟨R, 8, none⟩ = some v := (blk_cell b1' 8).trans rfl
    have f8 := blk_frozen b1' 8
    obtain ⟨vA, vc, rfl⟩ := own_slice b4
    have B4 := Aside0.mk b4
    have B5 := Aside0.mk b5
    have B1 := Aside0.mk b1'
    clear b1' b2 b3 b4 b5
    go_wp2_with ((with_reducible refine gate_builtin (b := .append) (xs := #[.tmp 25, .tmp 28]) rfl ?_); at_builtin; refine print_append_cells (w0 := w0) w0.heap.size rfl (.tmp 25) (.tmp 28) 32 30 (.agg #[.int .i64 0, .int .i64 0]) 2 16 rfl Try.underlying32 info30 rfl (by decide) (by omega) (.slice vA s1.out.length vc) s1.out.length (tokCells s1.out) [.int .i64 0, .int .i64 c] rfl rfl rfl (by simp [Value.oneCell']) B4.out B5.out B5.out.size (by omega) ?_; intro v1 w6 hown hbel hgr _; obtain ⟨vA1, vc1, rfl⟩ := own_slice hown; have HO := Aside0.mk hown; have HBe := Aside0.mk hbel; have HG := Aside0.mk hgr; clear hown hbel hgr; have y1 : w6.heap[R]? = some _ := blk_grown B1.out HG.out (own_ne B4.out B1.out (by decide)); have z8 : w6.cell? ⟨R, 8, none⟩ = some (.slice vA s1.out.length vc) := (blk_cell y1 8).trans rfl; have zf := blk_frozen y1 8; clear y1)
    go_ret
    refine ⟨rfl, isR_tell H5.out HO.out HBe.out (fun A' c' v' hb => ?_)⟩
    have e := B1.out.symm.trans hb
    simp only [Option.some.injEq, Obj.cells.injEq] at e
    have e8 := congrArg (fun a : Array Value => a[8]?) e.1
    simp only [List.getElem?_toArray, List.getElem?_cons_succ, List.getElem?_cons_zero, Option.some.injEq] at e8
    rw [← e8]
    exact HG.out
  rw [if_neg cS]
  have zS : decide (c = 32 ∨ c = 8 ∨ c = 10 ∨ c = 12 ∨ c = 13) = false := decide_eq_false cS
  rw [zS] at HCt
  clear cS zS
  by_cases cL : c = 14 ∨ c = 15
  · rw [if_pos cL]
    clear hgn
    rcases cL with rfl | rfl
    all_goals
      go_enter Try.func14, Try.ntmps14
      go_upto_region 5 with (first
        | (go_at_call 16; (with_reducible refine (HN.out _ H.out).mono ?_); rintro e w3 ⟨rfl, h3⟩; have H3 := Aside0.mk h3; clear h3)
        | (go_at_call 17; (with_reducible refine (HCt.out _).mono ?_); rintro e w4 ⟨rfl, ⟨n4, rfl⟩⟩))
      have H5 := Aside0.mk (isR_below H3.out (pw_below_drewN (below_alloc (Below.refl w3.heap.size w3) (.cells #[.int .i64 32, .int .i64 8, .int .i64 10, .int .i64 12, .int .i64 13] 3)) n4))
      clear H3
      generalize (w3.alloc (.cells #[.int .i64 32, .int .i64 8, .int .i64 10, .int .i64 12, .int .i64 13] 3)).drewN n4 = w5 at H5 ⊢
      obtain ⟨A, cc, v, b1', b2', b3', b4', b5'⟩ := H5.out
      have x0 : ∃ u, w5.cell? ⟨R, 6, none⟩ = some u := ⟨_, (blk_cell b1' 6).trans rfl⟩
      have f0 := blk_frozen b1' 6
      obtain ⟨u, x0⟩ := x0
      clear b1' b2' b3' b4' b5'
      go_wp2
      go_ret
      exact ⟨rfl, isR_set H5.out rfl (fun _ _ => rfl)⟩
  rw [if_neg cL]
  have e14 : (c == 14) = false := by simp; omega
  have e15 : (c == 15) = false := by simp; omega
  by_cases c25 : c = 25
  · rw [if_pos c25]
    subst c25
    have hS := fun W (hW : IsR w0 W R l s1) => single_calls w0 W R l s1 2 (by decide) hW hgn
    have HS : Aside0 (∀ W, IsR w0 W R l s1 → Calls Try.prog 18 #[.pointer (some ⟨R, 0, none⟩), .int .i64 2] W (PostE w0 R l (singleP l s1 2).1 (singleP l s1 2).2)) := Aside0.mk hS
    clear hgn hS cL
    try clear c25
    all_goals
      go_enter Try.func14, Try.ntmps14
      go_upto_region 5 with (first
        | (go_at_call 16; (with_reducible refine (HN.out _ H.out).mono ?_); rintro e w3 ⟨rfl, h3⟩; have H3 := Aside0.mk h3; clear h3)
        | (go_at_call 17; (with_reducible refine (HCt.out _).mono ?_); rintro e w4 ⟨rfl, ⟨n4, rfl⟩⟩))
      have H5 := Aside0.mk (isR_below H3.out (pw_below_drewN (below_alloc (Below.refl w3.heap.size w3) (.cells #[.int .i64 32, .int .i64 8, .int .i64 10, .int .i64 12, .int .i64 13] 3)) n4))
      clear H3
      generalize (w3.alloc (.cells #[.int .i64 32, .int .i64 8, .int .i64 10, .int .i64 12, .int .i64 13] 3)).drewN n4 = w5 at H5 ⊢
      go_wp2_with (go_at_call 18; (with_reducible refine (HS.out _ H5.out).mono ?_); rintro e w6 ⟨rfl, h6⟩; have H6 := Aside0.mk h6; clear h6)
      go_ret
      exact ⟨rfl, H6.out⟩
  rw [if_neg c25]
  have e25 : (c == 25) = false := by simp; omega
  by_cases c29 : c = 29
  · rw [if_pos c29]
    subst c29
    have hS := fun W (hW : IsR w0 W R l s1) => single_calls w0 W R l s1 3 (by decide) hW hgn
    have HS : Aside0 (∀ W, IsR w0 W R l s1 → Calls Try.prog 18 #[.pointer (some ⟨R, 0, none⟩), .int .i64 3] W (PostE w0 R l (singleP l s1 3).1 (singleP l s1 3).2)) := Aside0.mk hS
    clear hgn hS cL
    try clear c25
    all_goals
      go_enter Try.func14, Try.ntmps14
      go_upto_region 5 with (first
        | (go_at_call 16; (with_reducible refine (HN.out _ H.out).mono ?_); rintro e w3 ⟨rfl, h3⟩; have H3 := Aside0.mk h3; clear h3)
        | (go_at_call 17; (with_reducible refine (HCt.out _).mono ?_); rintro e w4 ⟨rfl, ⟨n4, rfl⟩⟩))
      have H5 := Aside0.mk (isR_below H3.out (pw_below_drewN (below_alloc (Below.refl w3.heap.size w3) (.cells #[.int .i64 32, .int .i64 8, .int .i64 10, .int .i64 12, .int .i64 13] 3)) n4))
      clear H3
      generalize (w3.alloc (.cells #[.int .i64 32, .int .i64 8, .int .i64 10, .int .i64 12, .int .i64 13] 3)).drewN n4 = w5 at H5 ⊢
      go_wp2_with (go_at_call 18; (with_reducible refine (HS.out _ H5.out).mono ?_); rintro e w6 ⟨rfl, h6⟩; have H6 := Aside0.mk h6; clear h6)
      go_ret
      exact ⟨rfl, H6.out⟩
  rw [if_neg c29]
  have e29 : (c == 29) = false := by simp; omega
  by_cases c27 : c = 27
  · rw [if_pos c27]
    subst c27
    have hS := fun W (hW : IsR w0 W R l s1) => escapes_calls w0 W R l s1 hW hgn
    have HS := Aside0.mk hS
    clear hgn hS cL c25 c29
    all_goals
      go_enter Try.func14, Try.ntmps14
      go_upto_region 5 with (first
        | (go_at_call 16; (with_reducible refine (HN.out _ H.out).mono ?_); rintro e w3 ⟨rfl, h3⟩; have H3 := Aside0.mk h3; clear h3)
        | (go_at_call 17; (with_reducible refine (HCt.out _).mono ?_); rintro e w4 ⟨rfl, ⟨n4, rfl⟩⟩))
      have H5 := Aside0.mk (isR_below H3.out (pw_below_drewN (below_alloc (Below.refl w3.heap.size w3) (.cells #[.int .i64 32, .int .i64 8, .int .i64 10, .int .i64 12, .int .i64 13] 3)) n4))
      clear H3
      generalize (w3.alloc (.cells #[.int .i64 32, .int .i64 8, .int .i64 10, .int .i64 12, .int .i64 13] 3)).drewN n4 = w5 at H5 ⊢
      go_wp2_with (go_at_call 19; (with_reducible refine (HS.out _ H5.out).mono ?_); rintro e w6 ⟨rfl, h6⟩; have H6 := Aside0.mk h6; clear h6)
      go_ret
      exact ⟨rfl, H6.out⟩
  rw [if_neg c27]
  have e27 : (c == 27) = false := by simp; omega
  by_cases c8 : c ≥ 128
  · rw [if_pos c8]
    obtain ⟨k, hk⟩ : ∃ k : Nat, s1.right = (k : Int) := ⟨s1.right.toNat, by have := hgn.r0; omega⟩
    have hk4 : k < 4 := by have := hgn.r0; omega
    have z8 : decide (c ≥ 128) = true := decide_eq_true c8
    have hS := fun W (hW : IsR w0 W R l s1) => place_calls w0 W R l s1 k c hk4 hW hgn hz
    have HS := Aside0.mk hS
    rw [hk]
    have HK := Aside0.mk hk
    clear hgn hS cL c25 c29 c27 hk
    all_goals
      go_enter Try.func14, Try.ntmps14
      go_upto_region 5 with (first
        | (go_at_call 16; (with_reducible refine (HN.out _ H.out).mono ?_); rintro e w3 ⟨rfl, h3⟩; have H3 := Aside0.mk h3; clear h3)
        | (go_at_call 17; (with_reducible refine (HCt.out _).mono ?_); rintro e w4 ⟨rfl, ⟨n4, rfl⟩⟩))
      have H5 := Aside0.mk (isR_below H3.out (pw_below_drewN (below_alloc (Below.refl w3.heap.size w3) (.cells #[.int .i64 32, .int .i64 8, .int .i64 10, .int .i64 12, .int .i64 13] 3)) n4))
      clear H3
      generalize (w3.alloc (.cells #[.int .i64 32, .int .i64 8, .int .i64 10, .int .i64 12, .int .i64 13] 3)).drewN n4 = w5 at H5 ⊢
      obtain ⟨A, cc, v, b1', b2', b3', b4', b5'⟩ := H5.out
      have x0 : w5.cell? ⟨R, 7, none⟩ = some (.int .i64 s1.right) := (blk_cell b1' 7).trans rfl
      rw [HK.out] at x0
      clear b1' b2' b3' b4' b5'
      go_wp2_with (go_at_call 20; (with_reducible refine (HS.out _ H5.out).mono ?_); rintro e w6 ⟨rfl, h6⟩; have H6 := Aside0.mk h6; clear h6)
      go_ret
      exact ⟨rfl, H6.out⟩
  · rw [if_neg c8]
    obtain ⟨k, hk⟩ : ∃ k : Nat, s1.left = (k : Int) := ⟨s1.left.toNat, by have := hgn.l0; omega⟩
    have hk4 : k < 4 := by have := hgn.l0; omega
    have z8 : decide (c ≥ 128) = false := decide_eq_false c8
    have hS := fun W (hW : IsR w0 W R l s1) => place_calls w0 W R l s1 k c hk4 hW hgn hz
    have HS := Aside0.mk hS
    rw [hk]
    have HK := Aside0.mk hk
    clear hgn hS cL c25 c29 c27 hk
    all_goals
      go_enter Try.func14, Try.ntmps14
      go_upto_region 5 with (first
        | (go_at_call 16; (with_reducible refine (HN.out _ H.out).mono ?_); rintro e w3 ⟨rfl, h3⟩; have H3 := Aside0.mk h3; clear h3)
        | (go_at_call 17; (with_reducible refine (HCt.out _).mono ?_); rintro e w4 ⟨rfl, ⟨n4, rfl⟩⟩))
      have H5 := Aside0.mk (isR_below H3.out (pw_below_drewN (below_alloc (Below.refl w3.heap.size w3) (.cells #[.int .i64 32, .int .i64 8, .int .i64 10, .int .i64 12, .int .i64 13] 3)) n4))
      clear H3
      generalize (w3.alloc (.cells #[.int .i64 32, .int .i64 8, .int .i64 10, .int .i64 12, .int .i64 13] 3)).drewN n4 = w5 at H5 ⊢
      obtain ⟨A, cc, v, b1', b2', b3', b4', b5'⟩ := H5.out
      have x0 : w5.cell? ⟨R, 6, none⟩ = some (.int .i64 s1.left) := (blk_cell b1' 6).trans rfl
      rw [HK.out] at x0
      clear b1' b2' b3' b4' b5'
      go_wp2_with (go_at_call 20; (with_reducible refine (HS.out _ H5.out).mono ?_); rintro e w6 ⟨rfl, h6⟩; have H6 := Aside0.mk h6; clear h6)
      go_ret
      exact ⟨rfl, H6.out⟩

def TokPost (w : World) (r : List (Int × Int) × Int × Int) (e : Ending) (w' : World) : Prop := ∃ v0 : Value, e = .returned (.tuple #[v0, .int .i64 r.2.1, .int .i64 r.2.2]) ∧ w'.ownsRow w.heap.size 30 2 v0 r.1.length (tokCells r.1) ∧ Below w.heap.size w w'
theorem good_start (l : List Int) (h : l.length ≤ 1000000 ∧ (l.all fun x => decide (0 ≤ x ∧ x ≤ 255)) = true) : Good l startR :=
  ⟨by simp [startR], by simp [startR], by simp [startR], h.1, fun x hx => by have := List.all_eq_true.1 h.2 x hx; simpa using this, by simp [startR], by simp [startR]⟩

set_option maxHeartbeats 8000000 in
set_option maxRecDepth 100000 in
theorem tokens_calls (A0 : Option Addr) (c0 : Nat) (l : List Int) (r : List (Int × Int) × Int × Int) (w : World) (hr0 : Kd.C (Kd.int .u8) w A0 l.length l) (h : tokF l = some r) :
    Calls Try.prog 9 #[.slice A0 l.length c0] w (TokPost w r) := by
  unfold tokF at h
  by_cases hc : l.length ≤ 1000000 ∧ (l.all fun x => decide (0 ≤ x ∧ x ≤ 255)) = true
  case neg => rw [if_neg hc] at h; cases h
  rw [if_pos hc] at h
  have G0 := good_start l hc
  have HL := Aside0.mk h
  have HR := Aside0.mk hr0
  have GG := Aside0.mk G0
  have hn := hc.1
  clear h hr0 G0 hc
  have hR : IsR w (w.alloc (.cells #[.slice A0 l.length c0, .int .i64 0, .int .i64 102, .int .i64 0, .int .i64 103, .int .i64 0, .int .i64 0, .int .i64 2, .slice none 0 0] 45)) w.heap.size l startR :=
    ⟨A0, c0, _, blk_new _ _, Nat.le_refl _, HR.out, World.ownsRow_nil _ _ _ _, below_alloc (Below.refl _ _) _⟩
  have H0 := Aside0.mk hR
  clear hR
  go_enter Try.func9, Try.ntmps9
  go_wp2
  go_loopg [3] (l.length + 1) (fun gk v3 w' => ∃ s : Rd, Aside0 (tokL l gk s = some r) ∧ Aside0 (IsR w w' w.heap.size l s) ∧ Aside0 (Good l s))
  case atStart => exact ⟨startR, HL, H0, GG⟩
  case round =>
    obtain ⟨s, HK, HS, HG⟩ := hrel
    have hk := HK.out
    clear HK HL H0 GG
    cases gk with
    | zero => cases hk
    | succ k1 =>
      rw [tokL] at hk
      obtain ⟨A, c, v, h1, h2, h3, h4, h5⟩ := HS.out
      have x1 : wr.cell? ⟨w.heap.size, 1, none⟩ = some (.int .i64 s.i) := (blk_cell h1 1).trans rfl
      have x8 : wr.cell? ⟨w.heap.size, 8, none⟩ = some v := (blk_cell h1 8).trans rfl
      have H4 := Aside0.mk h4
      have H5 := Aside0.mk h5
      clear h1 h2 h3 h4 h5
      by_cases hlt : s.i < (l.length : Int)
      · rw [if_pos hlt] at hk
        have hO := one_calls w wr w.heap.size l s HS.out HG.out hlt
        have hF := fine_one HG.out hlt
        have FN := Aside0.mk hF
        clear hF x8
        by_cases he : (oneP l s).1 = 0
        · rw [if_neg (fun q => q he)] at hk
          have HK := Aside0.mk hk
          rw [he] at hO
          have HO := Aside0.mk hO
          have t3 : ((0 : Int) != 0) = false := rfl
          clear hk hO he
          go_wp2_with (go_at_call 14; (with_reducible refine HO.out.mono ?_); rintro e w3 ⟨rfl, h3⟩; have H3 := Aside0.mk h3; clear h3)
          go_roundg k1
          case measure => omega
          case rel => exact ⟨_, HK, H3, ⟨FN.out.1⟩⟩
        · rw [if_pos he] at hk
          simp only [Option.some.injEq] at hk
          subst hk
          have HO := Aside0.mk hO
          have t3 : ((oneP l s).1 != 0) = true := by simpa using he
          clear hO he
          go_wp2_with (go_at_call 14; (with_reducible refine HO.out.mono ?_); rintro e w3 ⟨rfl, h3⟩; have H3 := Aside0.mk h3; clear h3)
          go_ret3
          obtain ⟨_, _, _, _, _, _, _, hb⟩ := H3.out
          exact ⟨_, rfl, World.ownsRow_nil _ _ _ _, hb⟩
      · rw [if_neg hlt] at hk
        simp only [Option.some.injEq] at hk
        subst hk
        go_wp2
        go_ret3
        exact ⟨_, rfl, H4.out, H5.out⟩
end Go.Proofs.Ytbgmblpgdaociaa.Base
