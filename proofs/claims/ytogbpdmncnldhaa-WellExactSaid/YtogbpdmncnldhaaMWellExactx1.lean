-- Written by a program of this session over the translation; checked by Lean alone.
import Derived.Test.YtogbpdmncnldhaaMWellExactx0
namespace Go.Proofs.Ytogbpdmncnldhaa.MWellExact
open Go.RowKit Go.Proofs.YtogbpdmncnldhaaW.PrintWords Go.Proofs.YtogbpdmncnldhaaW.PrintLast Go.Proofs.YtogbpdmncnldhaaW.PrintMore
attribute [local go_sem] max2_int min2_int max_two min_two max_three min_three max_four min_four   -- for this text's walks alone
set_option linter.unusedVariables false
set_option linter.unusedSimpArgs false
set_option linter.unnecessarySimpa false

/-! ### sobriquetkeep_Twin: function 10 -/
def sobriquetkeep_Twin.f (l0 : List Int) : Option (List Int) := if ([] : List Int).length + l0.length < 140737488355328 then (some (([] : List Int) ++ l0)) else (none)
set_option maxHeartbeats 8000000 in
set_option maxRecDepth 100000 in
theorem sobriquetkeep_Twin.calls (A0 : Option Addr) (c0 : Nat) (l0 : List Int) (r : List Int) (w : World) (hr0 : Kd.C (Kd.int .u8) w A0 l0.length l0) (hc0 : l0.length ≤ c0) (h : sobriquetkeep_Twin.f l0 = some r) :
    Calls Try.prog 10 #[.slice A0 l0.length c0] w fun e w' => ∃ v0_ : Value, e = .returned (v0_) ∧ Kd.R (Kd.int .u8) 5 w' w.heap.size (fun _ => True) v0_ r ∧ Below w.heap.size w w' := by
  have HR0 := Aside0.mk hr0
  have HC0 := Aside0.mk hc0
  clear hr0 hc0
  have HB := Aside0.mk (Below.refl w.heap.size w)
  have H : (if ([] : List Int).length + l0.length < 140737488355328 then (some (([] : List Int) ++ l0)) else (none)) = some r := h
  clear h
  by_cases c2 : ([] : List Int).length + l0.length < 140737488355328
  · rw [if_pos c2] at H
    have LMc2 := Aside0.mk c2
    clear c2
    obtain ⟨y101, hy101⟩ : ∃ y_ : List Int, y_ = (([] : List Int) ++ l0) := ⟨_, rfl⟩
    replace H : (some y101) = some r := by first | (rw [hy101]; with_reducible exact H) | (have H2_ := (Option.bind_some _ _).symm.trans H; rw [hy101]; with_reducible exact H2_) | (have H2_ := (Option.bind_some _ _).symm.trans H; with_reducible exact H2_) | with_reducible exact H | (rw [hy101]; exact H) | exact H
    have Ny101 := Aside0.mk hy101
    clear hy101
    obtain rfl := Option.some.inj H
    go_enter Try.func10, Try.ntmps10
    go_wp2_with (first | ((with_reducible refine gate_builtin (b := .append) (xs := #[.tmp 4, .tmp 5]) rfl ?_); at_builtin; refine Kd.R_append_rows (Kd.int .u8) (w0 := w) w.heap.size rfl (.tmp 4) (.tmp 5) 22 5 (.int .u8 0) 1 rfl Try.underlying22 info5 rfl (by decide) (by omega) (.slice none 0 0) ([] : List Int) l0 _ _ _ (fun _ => True) (fun _ => False) rfl rfl ?aO ?aR (fun _ _ h => h) (fun _ h => h.elim) ?aF ?aB ?aS ?aL ?_; (case aR => repeat (first | exact HR0.out | (with_reducible refine Kd.C_alloc ?_ _) | (with_reducible refine Kd.C_drewN ?_ _) | (with_reducible refine Kd.C_drew ?_))); (case aB => exact (by repeat (first | (with_reducible first | exact HB.out | apply below_alloc | apply pw_below_drewN | apply below_drew1) | exact HB.out))); (case aF => exact (fun _ _ => trivial)); (case aO => exact ((Kd.R_nil _ _ _ _ (fun _ => True)))); (case aS => exact (below_size (by repeat (first | (with_reducible first | exact HB.out | apply below_alloc | apply pw_below_drewN | apply below_drew1) | exact HB.out)))); (case aL => have := LMc2.out; omega); intro v102 w3 ho hb hg hat; rw [← Ny101.out] at ho; have n0_ := Aside0.mk (hb); have n1_ := Aside0.mk (ho); clear HB; have HB := n0_; have HO103 := n1_; clear n0_ n1_; clear ho hb hg hat))
    go_ret
    exact ⟨_, by first | rfl | (simp [errW_none, errW_some] <;> rfl) | (simp [*, errW_none, errW_some] <;> rfl), by (with_reducible repeat (first | apply Kd.R_alloc | apply Kd.R_drewN | apply Kd.R_drew)); exact HO103.out, by repeat (first | (with_reducible first | exact HB.out | apply below_alloc | apply pw_below_drewN | apply below_drew1) | exact HB.out)⟩
  · rw [if_neg c2] at H
    exact absurd H (by simp)

/-! ### well_Check: function 11 -/
def well_Check.f : Nat → List Int → Option (Int × Int) := Go.Proofs.Ytogbpdmncnldhaa.Base.well_Check.f
theorem well_Check.mono : ∀ a0 k, LeO (well_Check.f k a0) (well_Check.f (k + 1) a0) := Go.Proofs.Ytogbpdmncnldhaa.Base.well_Check.mono
theorem well_Check.calls (k : Nat) (A0 : Option Addr) (c0 : Nat) (l0 : List Int) (r1 r2 : Int) (w : World) (hr0 : Kd.C (Kd.int .u8) w A0 l0.length l0) (hc0 : l0.length ≤ c0) (h : well_Check.f k l0 = some (r1, r2)) :
    Calls Try.prog 11 #[.slice A0 l0.length c0] w fun e w' => e = .returned (.tuple #[.int .i64 r1, .int .i64 r2]) ∧ Below w.heap.size w w' :=
  Go.Proofs.Ytogbpdmncnldhaa.Base.well_Check.calls k A0 c0 l0 r1 r2 w hr0 hc0 h


/-! ### well_Parts: function 12 -/
def well_Parts.f : Nat → List Int → Option (List (List Int) × Int) := Go.Proofs.Ytogbpdmncnldhaa.Base.well_Parts.f
theorem well_Parts.mono : ∀ a0 k, LeO (well_Parts.f k a0) (well_Parts.f (k + 1) a0) := Go.Proofs.Ytogbpdmncnldhaa.Base.well_Parts.mono
theorem well_Parts.calls (k : Nat) (A0 : Option Addr) (c0 : Nat) (l0 : List Int) (r1 : List (List Int)) (r2 : Int) (w : World) (hr0 : Kd.C (Kd.int .u8) w A0 l0.length l0) (hc0 : l0.length ≤ c0) (h : well_Parts.f k l0 = some (r1, r2)) :
    Calls Try.prog 12 #[.slice A0 l0.length c0] w fun e w' => ∃ v0_ : Value, e = .returned (.tuple #[v0_, .int .i64 r2]) ∧ Kd.S (Kd.slice 5 (Kd.int .u8)) 22 w' w.heap.size (fun _ => True) v0_ r1 ∧ Below w.heap.size w w' :=
  Go.Proofs.Ytogbpdmncnldhaa.Base.well_Parts.calls k A0 c0 l0 r1 r2 w hr0 hc0 h


/-! ### well_Depth: function 13 -/
def well_Depth.f : Nat → List Int → Option (Int × Int) := Go.Proofs.Ytogbpdmncnldhaa.Base.well_Depth.f
theorem well_Depth.mono : ∀ a0 k, LeO (well_Depth.f k a0) (well_Depth.f (k + 1) a0) := Go.Proofs.Ytogbpdmncnldhaa.Base.well_Depth.mono
theorem well_Depth.calls (k : Nat) (A0 : Option Addr) (c0 : Nat) (l0 : List Int) (r1 r2 : Int) (w : World) (hr0 : Kd.C (Kd.int .u8) w A0 l0.length l0) (hc0 : l0.length ≤ c0) (h : well_Depth.f k l0 = some (r1, r2)) :
    Calls Try.prog 13 #[.slice A0 l0.length c0] w fun e w' => e = .returned (.tuple #[.int .i64 r1, .int .i64 r2]) ∧ Below w.heap.size w w' :=
  Go.Proofs.Ytogbpdmncnldhaa.Base.well_Depth.calls k A0 c0 l0 r1 r2 w hr0 hc0 h


/-! ### sobriquetref01_Read: function 17 -/
theorem rr_two (w : World) (a b : Obj) : ((w.alloc a).alloc b).heap[w.heap.size + 1]? = some b ∧ ((w.alloc a).alloc b).heap[w.heap.size]? = some a := by
  have h1 := blk_new (w.alloc a) b
  have h2 := blk_alloc (blk_new w a) b
  rw [show (w.alloc a).heap.size = w.heap.size + 1 by simp] at h1
  exact ⟨h1, h2⟩
theorem rr_put (W : World) (g : Nat) (t : TypeId) (a0 a1 a2 a3 a4 b0 b1 b2 b3 b4 : Value) (h : W.heap[g]? = some (.cells #[a0, a1, a2, a3, a4] t (0, 0))) :
    (((((W.setCell ⟨g, 0, none⟩ b0).setCell ⟨g, 1, none⟩ b1).setCell ⟨g, 2, none⟩ b2).setCell ⟨g, 3, none⟩ b3).setCell ⟨g, 4, none⟩ b4).heap[g]? = some (.cells #[b0, b1, b2, b3, b4] t (0, 0)) := by
  refine blk_put (cs := #[b0, b1, b2, b3, a4]) ?_ 4 _ rfl
  refine blk_put (cs := #[b0, b1, b2, a3, a4]) ?_ 3 _ rfl
  refine blk_put (cs := #[b0, b1, a2, a3, a4]) ?_ 2 _ rfl
  refine blk_put (cs := #[b0, a1, a2, a3, a4]) ?_ 1 _ rfl
  exact blk_put h 0 _ rfl
def ref_tag : Nat → List Int → Int → Int → Option (Int × Int × Int)
  | 0, _, _, _ => none
  | k + 1, l, p, n =>
    if p ≥ (l.length : Int) then some (0, 2, p) else
    if 0 ≤ p ∧ p ≤ 1000000000000 ∧ 0 ≤ rd l p ∧ rd l p < 256 ∧ 0 ≤ n ∧ n ≤ 268435455 then
      (if p = 1 ∧ rd l p = 128 then some (0, 3, p) else
       if n * 128 + rd l p % 128 > 268435455 then some (0, 3, p) else
       if rd l p ≥ 128 then ref_tag k l (p + 1) (n * 128 + rd l p % 128) else
       if n * 128 + rd l p % 128 < 31 then some (0, 3, p) else some (n * 128 + rd l p % 128, 0, p + 1))
    else none
def ref_lenL : Nat → List Int → Int → Int → Int → Int → Option (Int × Int × Int)
  | 0, _, _, _, _, _ => none
  | k + 1, l, m, i, p, n =>
    if i < m then
      (if p ≥ (l.length : Int) then some (0, 2, p) else
       if 0 ≤ p ∧ p ≤ 1000000000000 ∧ 0 ≤ rd l p ∧ rd l p < 256 ∧ 0 ≤ n ∧ n ≤ 1099511627776 ∧ 0 ≤ i ∧ i ≤ 10 then
         (if i = 0 ∧ rd l p = 0 then some (0, 4, p) else ref_lenL k l m (i + 1) (p + 1) (n * 256 + rd l p))
       else none)
    else if n > 2147483647 then some (0, 4, p) else if n < 128 then some (0, 4, p) else some (n, 0, p)
def ref_len (k : Nat) (l : List Int) (p : Int) : Option (Int × Int × Int) :=
  if p ≥ (l.length : Int) then some (0, 2, p) else
  if 0 ≤ p ∧ p ≤ 1000000000000 ∧ 0 ≤ rd l p ∧ rd l p < 256 then
    (if rd l p < 128 then some (rd l p, 0, p + 1) else if rd l p = 128 then some (0, 4, p) else if rd l p - 128 > 4 then some (0, 4, p) else ref_lenL k l (rd l p - 128) 0 (p + 1) 0)
  else none
def sobriquetref01_Read.f (k : Nat) (l : List Int) : Option (Int × Int × Bool × Int × Int × Int) :=
  if l.length = 0 then some (0, 0, false, 0, 0, 2) else
  if 0 ≤ rd l 0 ∧ rd l 0 < 256 ∧ l.length ≤ 1000000000000 then
    (if rd l 0 % 32 = 31 then ref_tag k l 1 0 else some (rd l 0 % 32, 0, 1)).bind fun t =>
      if t.2.1 = 0 then (ref_len k l t.2.2).bind fun n => if n.2.1 = 0 then some (rd l 0 / 64, t.1, (rd l 0 / 32 % 2 == 1), n.1, n.2.2, 0) else some (0, 0, false, 0, 0, n.2.1)
      else some (0, 0, false, 0, 0, t.2.1)
  else none
/-- The three blocks that the call lays: the result, the zero head, the head that is read. -/
def R3 (w : World) (g0 g1 g2 : Nat) (c t : Int) (b : Bool) (n z : Int) (W : World) : Prop :=
  W.heap[g0]? = some (.cells #[.int .i64 0, .int .i64 0, .bool false, .int .i64 0, .int .i64 0] 35 (0, 0)) ∧
  W.heap[g1]? = some (.cells #[.int .i64 0, .int .i64 0, .bool false, .int .i64 0, .int .i64 0] 35 (0, 0)) ∧
  W.heap[g2]? = some (.cells #[.int .i64 c, .int .i64 t, .bool b, .int .i64 n, .int .i64 z] 35 (0, 0)) ∧ Below w.heap.size w W ∧ (w.heap.size ≤ g0 ∧ w.heap.size ≤ g2 ∧ g2 ≠ g0 ∧ g2 ≠ g1)
def RPost (w : World) (r1 r2 : Int) (r3 : Bool) (r4 r5 r6 : Int) (e : Ending) (w' : World) : Prop := e = .returned (.tuple #[.agg #[.int .i64 r1, .int .i64 r2, .bool r3, .int .i64 r4, .int .i64 r5], .int .i64 r6]) ∧ Below w.heap.size w w'
theorem r3_new (w : World) (c t : Int) (b : Bool) : R3 w w.heap.size (w.heap.size + 1) (w.heap.size + 1 + 1) c t b 0 0 (((w.alloc (.cells #[.int .i64 0, .int .i64 0, .bool false, .int .i64 0, .int .i64 0] 35)).alloc (.cells #[.int .i64 0, .int .i64 0, .bool false, .int .i64 0, .int .i64 0] 35)).alloc (.cells #[.int .i64 c, .int .i64 t, .bool b, .int .i64 0, .int .i64 0] 35)).drew := by
  have e1 : ((w.alloc (.cells #[.int .i64 0, .int .i64 0, .bool false, .int .i64 0, .int .i64 0] 35)).alloc (.cells #[.int .i64 0, .int .i64 0, .bool false, .int .i64 0, .int .i64 0] 35)).heap.size = w.heap.size + 1 + 1 := by simp
  have h := rr_two w (.cells #[.int .i64 0, .int .i64 0, .bool false, .int .i64 0, .int .i64 0] 35) (.cells #[.int .i64 0, .int .i64 0, .bool false, .int .i64 0, .int .i64 0] 35)
  refine ⟨blk_drew (blk_alloc h.2 _), blk_drew (blk_alloc h.1 _), ?_, below_drew (below_alloc (below_alloc (below_alloc (Below.refl _ _) _) _) _), by omega⟩
  have := blk_new ((w.alloc (.cells #[.int .i64 0, .int .i64 0, .bool false, .int .i64 0, .int .i64 0] 35)).alloc (.cells #[.int .i64 0, .int .i64 0, .bool false, .int .i64 0, .int .i64 0] 35)) (.cells #[.int .i64 c, .int .i64 t, .bool b, .int .i64 0, .int .i64 0] 35)
  rw [e1] at this
  exact blk_drew this
theorem r3_drew {w W : World} {g0 g1 g2 : Nat} {c t : Int} {b : Bool} {n z : Int} (h : R3 w g0 g1 g2 c t b n z W) : R3 w g0 g1 g2 c t b n z W.drew := ⟨blk_drew h.1, blk_drew h.2.1, blk_drew h.2.2.1, below_drew h.2.2.2.1, h.2.2.2.2⟩
theorem r3_tag {w W : World} {g0 g1 g2 : Nat} {c t : Int} {b : Bool} {n z : Int} (h : R3 w g0 g1 g2 c t b n z W) (x : Int) : R3 w g0 g1 g2 c x b n z (W.setCell ⟨g2, 1, none⟩ (.int .i64 x)) :=
  ⟨blk_far h.1 (Ne.symm h.2.2.2.2.2.2.1) _, blk_far h.2.1 (Ne.symm h.2.2.2.2.2.2.2) _, blk_put h.2.2.1 1 _ rfl, below_set h.2.2.2.1 h.2.2.2.2.2.1, h.2.2.2.2⟩
theorem r3_len {w W : World} {g0 g1 g2 : Nat} {c t : Int} {b : Bool} {n z : Int} (h : R3 w g0 g1 g2 c t b n z W) (x : Int) : R3 w g0 g1 g2 c t b x z (W.setCell ⟨g2, 3, none⟩ (.int .i64 x)) :=
  ⟨blk_far h.1 (Ne.symm h.2.2.2.2.2.2.1) _, blk_far h.2.1 (Ne.symm h.2.2.2.2.2.2.2) _, blk_put h.2.2.1 3 _ rfl, below_set h.2.2.2.1 h.2.2.2.2.2.1, h.2.2.2.2⟩
theorem r3_size {w W : World} {g0 g1 g2 : Nat} {c t : Int} {b : Bool} {n z : Int} (h : R3 w g0 g1 g2 c t b n z W) (x : Int) : R3 w g0 g1 g2 c t b n x (W.setCell ⟨g2, 4, none⟩ (.int .i64 x)) :=
  ⟨blk_far h.1 (Ne.symm h.2.2.2.2.2.2.1) _, blk_far h.2.1 (Ne.symm h.2.2.2.2.2.2.2) _, blk_put h.2.2.1 4 _ rfl, below_set h.2.2.2.1 h.2.2.2.2.2.1, h.2.2.2.2⟩
theorem rr_set5 {w W : World} {g : Nat} {v0 v1 v2 v3 v4 : Value} (h : Below w.heap.size w W) (hg : w.heap.size ≤ g) :
    Below w.heap.size w (((((W.setCell ⟨g, 0, none⟩ v0).setCell ⟨g, 1, none⟩ v1).setCell ⟨g, 2, none⟩ v2).setCell ⟨g, 3, none⟩ v3).setCell ⟨g, 4, none⟩ v4) :=
  below_set (below_set (below_set (below_set (below_set h hg) hg) hg) hg) hg
theorem rr_cell_below {W W1 : World} {a : Addr} {v : Value} (hb : Below W.heap.size W W1) (h : W.cell? a = some v) : W1.cell? a = some v := (hb.cell (World.block_lt_of_cell? W a h)).trans h
set_option maxHeartbeats 4000000 in
set_option maxRecDepth 100000 in
theorem sobriquetref01_Read.walked (k : Nat) (A0 : Option Addr) (c0 : Nat) (l : List Int) (r1 r2 : Int) (r3 : Bool) (r4 r5 r6 : Int) (w : World) (hr0 : Kd.C (Kd.int .u8) w A0 l.length l) (hc0 : l.length ≤ c0) (h : sobriquetref01_Read.f k l = some (r1, r2, r3, r4, r5, r6)) :
    Calls Try.prog 17 #[.slice A0 l.length c0] w (RPost w r1 r2 r3 r4 r5 r6) := by
  have hu := Try.underlying35
  have HC := Aside0.mk hr0
  clear hr0
  have HF := Aside0.mk h
  clear h
  by_cases hl0 : l.length = 0
  · have F := HF.out
    unfold sobriquetref01_Read.f at F
    rw [if_pos hl0] at F
    simp only [Option.some.injEq, Prod.mk.injEq] at F
    obtain ⟨rfl, rfl, rfl, rfl, rfl, rfl⟩ := F
    have hln : l = [] := List.eq_nil_of_length_eq_zero hl0
    subst hln
    clear HF HC hl0
    simp only [List.length_nil]
    go_enter Try.func17, Try.ntmps17
    go_wp2
    refine bodyPost_ret (results_ct rfl _ _ w.heap.size 35 #[.int .i64 0, .int .i64 0, .bool false, .int .i64 0, .int .i64 0] (0, 0) _ rfl (rr_two w (.cells #[.int .i64 0, .int .i64 0, .bool false, .int .i64 0, .int .i64 0] 35) (.cells #[.int .i64 0, .int .i64 0, .bool false, .int .i64 0, .int .i64 0] 35)).2 Try.underlying35 rfl (by kernel_rfl)) rfl ⟨rfl, ?_⟩
    exact below_alloc (below_alloc (Below.refl _ _) _) _
  have F := HF.out
  unfold sobriquetref01_Read.f at F
  rw [if_neg hl0] at F
  by_cases hg : ¬ (0 ≤ rd l 0 ∧ rd l 0 < 256 ∧ l.length ≤ 1000000000000)
  · rw [if_neg hg] at F; cases F
  replace hg := Decidable.of_not_not hg
  rw [if_pos hg] at F
  obtain ⟨g1, g2, g3⟩ := hg
  obtain ⟨⟨t, et, pt⟩, ht, F⟩ := Option.bind_eq_some_iff.mp F
  dsimp only at F
  obtain ⟨ad, rfl, x0⟩ := Kd.at_int HC.out 0 (Int.le_refl _) (by omega)
  have x0 : w.cell? ad = some (.int .u8 (rd l 0)) := by
    have e : ad.add 0 = ad := by simp [Addr.add]
    have q := x0
    rw [show ((0 : Int).toNat) = 0 from rfl, e] at q
    exact q
  obtain ⟨c, hc⟩ : ∃ c, c = rd l 0 := ⟨_, rfl⟩
  rw [← hc] at x0 g1 g2 ht F
  have had : ad.block < w.heap.size := World.block_lt_of_cell? w _ x0
  have HT := Aside0.mk ht
  have F2 := Aside0.mk F
  clear ht F HF hc
  have b0 : decide ((0 : Int) < (l.length : Int)) = true := decide_eq_true (by omega)
  have b1 : ((l.length : Int) == 0) = false := beq_eq_false_iff_ne.mpr (by omega)
  have b2 : (0 : Int) < (l.length : Int) := by omega
  have b3 : 0 < l.length := by omega
  have b4 : decide (0 < l.length) = true := decide_eq_true b3
  clear hl0
  go_enter Try.func17, Try.ntmps17
  go_wp2
  have hcc : IntKind.i64.wrap c = c := by rw [IntKind.wrap_i64]; omega
  have x1 : (((w.alloc (.cells #[.int .i64 0, .int .i64 0, .bool false, .int .i64 0, .int .i64 0] 35)).alloc (.cells #[.int .i64 0, .int .i64 0, .bool false, .int .i64 0, .int .i64 0] 35))).cell? ad = some (.int .u8 c) := rr_cell_below (below_alloc (Below.refl _ _) _) (rr_cell_below (below_alloc (Below.refl _ _) _) x0)
  have ne0 : ad.block ≠ w.heap.size := by omega
  have ne1 : ad.block ≠ w.heap.size + 1 := by omega
  have ne2 : ad.block ≠ w.heap.size + 2 := by omega
  go_region_held3 (fun w' => w'.cell? ad = some (.int .u8 c)) (first | go_keep | exact rr_cell_below (below_drew (below_alloc (Below.refl _ _) _)) x1 | exact rr_cell_below (below_alloc (below_drew (Below.refl _ _)) _) x1) (fail)
  go_upto_if 34 with (fail)
  have HR := Aside0.mk (r3_new w (c / 64) (c % 32) (c / 32 % 2 == 1))
  generalize (((w.alloc (.cells #[.int .i64 0, .int .i64 0, .bool false, .int .i64 0, .int .i64 0] 35)).alloc (.cells #[.int .i64 0, .int .i64 0, .bool false, .int .i64 0, .int .i64 0] 35)).alloc (.cells #[.int .i64 (c / 64), .int .i64 (c % 32), .bool (c / 32 % 2 == 1), .int .i64 0, .int .i64 0] 35)).drew = W1 at HR ⊢
  clear x1 ne0 ne1 ne2
  have had0 : ad.block ≠ w.heap.size := by omega
  have had1 : ad.block ≠ w.heap.size + 1 := by omega
  have had2 : ad.block ≠ w.heap.size + 1 + 1 := by omega
  generalize hg2 : w.heap.size + 1 + 1 = g2 at HR had2 ⊢
  generalize hg1 : w.heap.size + 1 = g1 at HR had1 hg2 ⊢
  clear hg2 hg1
  generalize hg0 : w.heap.size = g0 at HR had0 ⊢
  have HG0 := Aside0.mk hg0
  clear hg0 hcc b0 b1 b2 b3 b4
  generalize (c / 32 % 2 == 1) = bc at HR F2 ⊢
  go_cut [6] (fun s6 wx => s6 = .int .i64 pt ∧ et = 0 ∧ R3 w g0 g1 g2 (c / 64) t bc 0 0 wx)
  case first => 
    by_cases h31 : c % 32 = 31
    · have ht := HT.out
      rw [if_pos h31] at ht
      have HT2 := Aside0.mk ht
      clear ht HT
      have d1 : ((c % 32 : Int) == 31) = true := beq_iff_eq.mpr h31
      have z0 := blk_cell HR.out.1 0
      have z1 := blk_cell HR.out.1 1
      have z2 := blk_cell HR.out.1 2
      have z3 := blk_cell HR.out.1 3
      have z4 := blk_cell HR.out.1 4
      have f0 := blk_frozen HR.out.1 0
      have f1 := blk_frozen HR.out.1 1
      have f2 := blk_frozen HR.out.1 2
      have f3 := blk_frozen HR.out.1 3
      have f4 := blk_frozen HR.out.1 4
      have y0 := blk_cell HR.out.2.1 0
      have y1 := blk_cell HR.out.2.1 1
      have y2 := blk_cell HR.out.2.1 2
      have y3 := blk_cell HR.out.2.1 3
      have y4 := blk_cell HR.out.2.1 4
      have h0 := blk_cell HR.out.2.2.1 0
      have h1 := blk_cell HR.out.2.2.1 1
      have h2 := blk_cell HR.out.2.2.1 2
      have h3 := blk_cell HR.out.2.2.1 3
      have h4 := blk_cell HR.out.2.2.1 4
      have q1 := blk_frozen HR.out.2.2.1 1
      have q3 := blk_frozen HR.out.2.2.1 3
      have q4 := blk_frozen HR.out.2.2.1 4
      simp only [List.getElem?_toArray, List.getElem?_cons_zero, List.getElem?_cons_succ] at z0 z1 z2 z3 z4 y0 y1 y2 y3 y4 h0 h1 h2 h3 h4
      have ng0 := HR.out.2.2.2.2.2.2.1
      have ng1 := HR.out.2.2.2.2.2.2.2
      go_upto_region 9 with (fail)
      have HR2 := Aside0.mk (r3_tag HR.out 0)
      generalize W1.setCell ⟨g2, 1, none⟩ (.int .i64 0) = W3 at HR2 ⊢
      clear h31 d1 x0 z0 z1 z2 z3 z4 f0 f1 f2 f3 f4 y0 y1 y2 y3 y4 h0 h1 h2 h3 h4 q1 q3 q4 ng0 ng1
      clear HR
      generalize ((c % 32 : Int) == 31) = bz0
      go_loopg [6, 7] k (fun kq v6 v7 w' => ∃ (p n : Int) (m : Bool), v6 = .int .i64 p ∧ v7 = .bool m ∧ Aside0 ((m = true → ref_tag kq l p n = some (t, et, pt)) ∧ (m = false → (if n < 31 then some (0, 3, p - 1) else some (n, 0, p)) = some (t, et, pt))) ∧ Aside0 (R3 w g0 g1 g2 (c / 64) n bc 0 0 w'))
      case atStart => exact ⟨1, 0, true, rfl, rfl, ⟨⟨fun _ => HT2.out, fun q => by cases q⟩⟩, HR2⟩
      case round =>
        obtain ⟨p, n, m, rfl, rfl, HK, HR3⟩ := hrel
        clear HT2 HR2
        have z0 := blk_cell HR3.out.1 0
        have z1 := blk_cell HR3.out.1 1
        have z2 := blk_cell HR3.out.1 2
        have z3 := blk_cell HR3.out.1 3
        have z4 := blk_cell HR3.out.1 4
        have f0 := blk_frozen HR3.out.1 0
        have f1 := blk_frozen HR3.out.1 1
        have f2 := blk_frozen HR3.out.1 2
        have f3 := blk_frozen HR3.out.1 3
        have f4 := blk_frozen HR3.out.1 4
        have y0 := blk_cell HR3.out.2.1 0
        have y1 := blk_cell HR3.out.2.1 1
        have y2 := blk_cell HR3.out.2.1 2
        have y3 := blk_cell HR3.out.2.1 3
        have y4 := blk_cell HR3.out.2.1 4
        have h0 := blk_cell HR3.out.2.2.1 0
        have h1 := blk_cell HR3.out.2.2.1 1
        have h2 := blk_cell HR3.out.2.2.1 2
        have h3 := blk_cell HR3.out.2.2.1 3
        have h4 := blk_cell HR3.out.2.2.1 4
        have q1 := blk_frozen HR3.out.2.2.1 1
        have q3 := blk_frozen HR3.out.2.2.1 3
        have q4 := blk_frozen HR3.out.2.2.1 4
        simp only [List.getElem?_toArray, List.getElem?_cons_zero, List.getElem?_cons_succ] at z0 z1 z2 z3 z4 y0 y1 y2 y3 y4 h0 h1 h2 h3 h4
        have ng0 := HR3.out.2.2.2.2.2.2.1
        have ng1 := HR3.out.2.2.2.2.2.2.2
        cases m with
        | false =>
          have hk := HK.out.2 rfl
          by_cases hb : n < 31
          · rw [if_pos hb] at hk
            simp only [Option.some.injEq, Prod.mk.injEq] at hk
            obtain ⟨rfl, rfl, rfl⟩ := hk
            have F := F2.out
            rw [if_neg (by decide)] at F
            simp only [Option.some.injEq, Prod.mk.injEq] at F
            obtain ⟨rfl, rfl, rfl, rfl, rfl, rfl⟩ := F
            have e1 : decide (n < 31) = true := decide_eq_true hb
            go_wp2
            refine bodyPost_ret (results_ct rfl _ _ g0 35 #[.int .i64 0, .int .i64 0, .bool false, .int .i64 0, .int .i64 0] (0, 0) _ rfl (rr_put _ _ _ _ _ _ _ _ _ _ _ _ _ HR3.out.1) Try.underlying35 rfl (by kernel_rfl)) rfl ⟨rfl, ?_⟩
            exact rr_set5 HR3.out.2.2.2.1 HR3.out.2.2.2.2.1
          · rw [if_neg hb] at hk
            simp only [Option.some.injEq, Prod.mk.injEq] at hk
            obtain ⟨rfl, rfl, rfl⟩ := hk
            have e1 : decide (n < 31) = false := decide_eq_false hb
            go_wp2_with fail
            go_meet
            exact ⟨rfl, trivial, HR3.out⟩
        | true =>
          have hk := HK.out.1 rfl
          clear HK
          cases gk with
          | zero => cases hk
          | succ k1 =>
          rw [ref_tag] at hk
          by_cases hp : p ≥ (l.length : Int)
          · rw [if_pos hp] at hk
            simp only [Option.some.injEq, Prod.mk.injEq] at hk
            obtain ⟨rfl, rfl, rfl⟩ := hk
            have F := F2.out
            rw [if_neg (by decide)] at F
            simp only [Option.some.injEq, Prod.mk.injEq] at F
            obtain ⟨rfl, rfl, rfl, rfl, rfl, rfl⟩ := F
            have e2 : decide ((l.length : Int) ≤ p) = true := decide_eq_true hp
            go_wp2
            refine bodyPost_ret (results_ct rfl _ _ g0 35 #[.int .i64 0, .int .i64 0, .bool false, .int .i64 0, .int .i64 0] (0, 0) _ rfl (rr_put _ _ _ _ _ _ _ _ _ _ _ _ _ HR3.out.1) Try.underlying35 rfl (by kernel_rfl)) rfl ⟨rfl, ?_⟩
            exact rr_set5 HR3.out.2.2.2.1 HR3.out.2.2.2.2.1
          rw [if_neg hp] at hk
          by_cases hg : ¬ (0 ≤ p ∧ p ≤ 1000000000000 ∧ 0 ≤ rd l p ∧ rd l p < 256 ∧ 0 ≤ n ∧ n ≤ 268435455)
          · rw [if_neg hg] at hk; cases hk
          replace hg := Decidable.of_not_not hg
          rw [if_pos hg] at hk
          obtain ⟨j1, j2, j3, j4, j5, j6⟩ := hg
          obtain ⟨ad2, had', xp⟩ := Kd.at_int HC.out p j1 (by omega)
          obtain rfl : ad = ad2 := by simpa using had'
          clear had'
          have xp2 := rr_cell_below HR3.out.2.2.2.1 xp
          obtain ⟨x, hx⟩ : ∃ x, x = rd l p := ⟨_, rfl⟩
          rw [← hx] at xp2 xp j3 j4 hk
          have HXP := Aside0.mk xp
          clear hx xp
          have e2 : decide ((l.length : Int) ≤ p) = false := decide_eq_false hp
          have e3 : p < (l.length : Int) := by omega
          have e4 : decide (p < (l.length : Int)) = true := decide_eq_true e3
          have e5 : decide (0 ≤ p) = true := decide_eq_true j1
          clear hp
          have HK := Aside0.mk hk
          clear hk
          by_cases hz : p = 1 ∧ x = 128
          · have hk := HK.out
            rw [if_pos hz] at hk
            simp only [Option.some.injEq, Prod.mk.injEq] at hk
            obtain ⟨rfl, rfl, rfl⟩ := hk
            have F := F2.out
            rw [if_neg (by decide)] at F
            simp only [Option.some.injEq, Prod.mk.injEq] at F
            obtain ⟨rfl, rfl, rfl, rfl, rfl, rfl⟩ := F
            have b1 : ((p : Int) == 1) = true := beq_iff_eq.mpr hz.1
            have b2 : ((x : Int) == 128) = true := beq_iff_eq.mpr hz.2
            clear hz
            go_wp2
            refine bodyPost_ret (results_ct rfl _ _ g0 35 #[.int .i64 0, .int .i64 0, .bool false, .int .i64 0, .int .i64 0] (0, 0) _ rfl (rr_put _ _ _ _ _ _ _ _ _ _ _ _ _ HR3.out.1) Try.underlying35 rfl (by kernel_rfl)) rfl ⟨rfl, ?_⟩
            exact rr_set5 HR3.out.2.2.2.1 HR3.out.2.2.2.2.1
          have hk := HK.out
          rw [if_neg hz] at hk
          have HK2 := Aside0.mk hk
          clear hk HK
          go_upto_region 13 with (fail)
          go_cut [52] (fun s52 wx => s52 = .bool false ∧ wx = wr)
          case first =>
            by_cases hi0 : p = 1
            · have b1 : ((x : Int) == 128) = false := beq_eq_false_iff_ne.mpr (fun q => hz ⟨hi0, q⟩)
              have b2 : ((p : Int) == 1) = true := beq_iff_eq.mpr hi0
              clear hz hi0
              go_wp2_with fail
              go_meet
              exact ⟨rfl, rfl⟩
            · have b1 : ((p : Int) == 1) = false := beq_eq_false_iff_ne.mpr hi0
              clear hz hi0
              go_wp2_with fail
              go_meet
              exact ⟨rfl, rfl⟩
          case rest =>
          rename World => wr2
          obtain ⟨rfl, rfl⟩ := hcut
          clear hz
          have s4 : IntKind.i64.wrap (n * 128) = n * 128 := by rw [IntKind.wrap_i64]; omega
          have s5 : IntKind.i64.wrap (n * 128 + x % 128) = n * 128 + x % 128 := by rw [IntKind.wrap_i64]; omega
          have s6 : IntKind.i64.wrap x = x := by rw [IntKind.wrap_i64]; omega
          have s7 : IntKind.i64.wrap (p + 1) = p + 1 := by rw [IntKind.wrap_i64]; omega
          go_wp2_with fail
          go_region
          go_upto_region 16 with (fail)
          have HR4 := Aside0.mk (r3_drew (r3_tag HR3.out (n * 128 + x % 128)))
          generalize (wr2.setCell ⟨g2, 1, none⟩ (.int .i64 (n * 128 + x % 128))).drew = W4 at HR4 ⊢
          clear xp2 s4 s5 HR3 z0 z1 z2 z3 z4 f0 f1 f2 f3 f4 y0 y1 y2 y3 y4 h0 h1 h2 h3 h4 q1 q3 q4 ng0 ng1
          have xp2 := rr_cell_below HR4.out.2.2.2.1 HXP.out
          have z0 := blk_cell HR4.out.1 0
          have z1 := blk_cell HR4.out.1 1
          have z2 := blk_cell HR4.out.1 2
          have z3 := blk_cell HR4.out.1 3
          have z4 := blk_cell HR4.out.1 4
          have f0 := blk_frozen HR4.out.1 0
          have f1 := blk_frozen HR4.out.1 1
          have f2 := blk_frozen HR4.out.1 2
          have f3 := blk_frozen HR4.out.1 3
          have f4 := blk_frozen HR4.out.1 4
          have y0 := blk_cell HR4.out.2.1 0
          have y1 := blk_cell HR4.out.2.1 1
          have y2 := blk_cell HR4.out.2.1 2
          have y3 := blk_cell HR4.out.2.1 3
          have y4 := blk_cell HR4.out.2.1 4
          have h0 := blk_cell HR4.out.2.2.1 0
          have h1 := blk_cell HR4.out.2.2.1 1
          have h2 := blk_cell HR4.out.2.2.1 2
          have h3 := blk_cell HR4.out.2.2.1 3
          have h4 := blk_cell HR4.out.2.2.1 4
          have q1 := blk_frozen HR4.out.2.2.1 1
          have q3 := blk_frozen HR4.out.2.2.1 3
          have q4 := blk_frozen HR4.out.2.2.1 4
          simp only [List.getElem?_toArray, List.getElem?_cons_zero, List.getElem?_cons_succ] at z0 z1 z2 z3 z4 y0 y1 y2 y3 y4 h0 h1 h2 h3 h4
          have ng0 := HR4.out.2.2.2.2.2.2.1
          have ng1 := HR4.out.2.2.2.2.2.2.2
          have hk := HK2.out
          by_cases hbig : n * 128 + x % 128 > 268435455
          · rw [if_pos hbig] at hk
            simp only [Option.some.injEq, Prod.mk.injEq] at hk
            obtain ⟨rfl, rfl, rfl⟩ := hk
            have F := F2.out
            rw [if_neg (by decide)] at F
            simp only [Option.some.injEq, Prod.mk.injEq] at F
            obtain ⟨rfl, rfl, rfl, rfl, rfl, rfl⟩ := F
            have b1 : decide (268435455 < n * 128 + x % 128) = true := decide_eq_true hbig
            go_wp2
            refine bodyPost_ret (results_ct rfl _ _ g0 35 #[.int .i64 0, .int .i64 0, .bool false, .int .i64 0, .int .i64 0] (0, 0) _ rfl (rr_put _ _ _ _ _ _ _ _ _ _ _ _ _ HR4.out.1) Try.underlying35 rfl (by kernel_rfl)) rfl ⟨rfl, ?_⟩
            exact rr_set5 HR4.out.2.2.2.1 HR4.out.2.2.2.2.1
          rw [if_neg hbig] at hk
          have b1 : decide (268435455 < n * 128 + x % 128) = false := decide_eq_false hbig
          by_cases hm : x ≥ 128
          · rw [if_pos hm] at hk
            have HK3 := Aside0.mk hk
            have b2 : decide (128 ≤ x) = true := decide_eq_true hm
            clear hk HK2
            go_wp2_with fail
            go_roundg k1
            case measure => omega
            case rel => exact ⟨p + 1, n * 128 + x % 128, true, rfl, rfl, ⟨⟨fun _ => HK3.out, fun q => by cases q⟩⟩, HR4⟩
          · rw [if_neg hm] at hk
            have HK3 := Aside0.mk hk
            have b2 : decide (128 ≤ x) = false := decide_eq_false hm
            clear hk HK2
            go_wp2_with fail
            go_roundg k1
            case measure => omega
            case rel => exact ⟨p + 1, n * 128 + x % 128, false, rfl, rfl, ⟨⟨fun q => (by cases q), fun _ => (by rw [show p + 1 - 1 = p by omega]; exact HK3.out)⟩⟩, HR4⟩
    · have ht := HT.out
      rw [if_neg h31] at ht
      simp only [Option.some.injEq, Prod.mk.injEq] at ht
      obtain ⟨rfl, rfl, rfl⟩ := ht
      have d1 : ((c % 32 : Int) == 31) = false := beq_eq_false_iff_ne.mpr h31
      clear h31
      go_wp2_with fail
      go_meet
      exact ⟨rfl, trivial, HR.out⟩

  case rest =>
    rename World => W2
    obtain ⟨rfl, rfl, hR⟩ := hcut
    have HR2 := Aside0.mk hR
    clear hR HR HT x0
    have F := F2.out
    rw [if_pos rfl] at F
    obtain ⟨⟨n, en, pn⟩, hlen, F⟩ := Option.bind_eq_some_iff.mp F
    dsimp only at F
    have F3 := Aside0.mk F
    clear F F2
    unfold ref_len at hlen
    have z0 := blk_cell HR2.out.1 0
    have z1 := blk_cell HR2.out.1 1
    have z2 := blk_cell HR2.out.1 2
    have z3 := blk_cell HR2.out.1 3
    have z4 := blk_cell HR2.out.1 4
    have f0 := blk_frozen HR2.out.1 0
    have f1 := blk_frozen HR2.out.1 1
    have f2 := blk_frozen HR2.out.1 2
    have f3 := blk_frozen HR2.out.1 3
    have f4 := blk_frozen HR2.out.1 4
    have y0 := blk_cell HR2.out.2.1 0
    have y1 := blk_cell HR2.out.2.1 1
    have y2 := blk_cell HR2.out.2.1 2
    have y3 := blk_cell HR2.out.2.1 3
    have y4 := blk_cell HR2.out.2.1 4
    have h0 := blk_cell HR2.out.2.2.1 0
    have h1 := blk_cell HR2.out.2.2.1 1
    have h2 := blk_cell HR2.out.2.2.1 2
    have h3 := blk_cell HR2.out.2.2.1 3
    have h4 := blk_cell HR2.out.2.2.1 4
    have q1 := blk_frozen HR2.out.2.2.1 1
    have q3 := blk_frozen HR2.out.2.2.1 3
    have q4 := blk_frozen HR2.out.2.2.1 4
    simp only [List.getElem?_toArray, List.getElem?_cons_zero, List.getElem?_cons_succ] at z0 z1 z2 z3 z4 y0 y1 y2 y3 y4 h0 h1 h2 h3 h4
    have ng0 := HR2.out.2.2.2.2.2.2.1
    have ng1 := HR2.out.2.2.2.2.2.2.2
    by_cases hp : pt ≥ (l.length : Int)
    · rw [if_pos hp] at hlen
      simp only [Option.some.injEq, Prod.mk.injEq] at hlen
      obtain ⟨rfl, rfl, rfl⟩ := hlen
      have F := F3.out
      rw [if_neg (by decide)] at F
      simp only [Option.some.injEq, Prod.mk.injEq] at F
      obtain ⟨rfl, rfl, rfl, rfl, rfl, rfl⟩ := F
      have d1 : decide ((l.length : Int) ≤ pt) = true := decide_eq_true hp
      go_wp2
      refine bodyPost_ret (results_ct rfl _ _ g0 35 #[.int .i64 0, .int .i64 0, .bool false, .int .i64 0, .int .i64 0] (0, 0) _ rfl (rr_put _ _ _ _ _ _ _ _ _ _ _ _ _ HR2.out.1) Try.underlying35 rfl (by kernel_rfl)) rfl ⟨rfl, ?_⟩
      exact rr_set5 HR2.out.2.2.2.1 HR2.out.2.2.2.2.1
    rw [if_neg hp] at hlen
    by_cases hg : ¬ (0 ≤ pt ∧ pt ≤ 1000000000000 ∧ 0 ≤ rd l pt ∧ rd l pt < 256)
    · rw [if_neg hg] at hlen; cases hlen
    replace hg := Decidable.of_not_not hg
    rw [if_pos hg] at hlen
    obtain ⟨g4, g5, g6, g7⟩ := hg
    obtain ⟨ad2, had', xp⟩ := Kd.at_int HC.out pt g4 (by omega)
    obtain rfl : ad = ad2 := by simpa using had'
    clear had'
    have xp2 := rr_cell_below HR2.out.2.2.2.1 xp
    clear xp
    obtain ⟨x, hx⟩ : ∃ x, x = rd l pt := ⟨_, rfl⟩
    rw [← hx] at xp2 g6 g7 hlen
    clear hx
    have HLEN := Aside0.mk hlen
    clear hlen
    have d1 : decide ((l.length : Int) ≤ pt) = false := decide_eq_false hp
    have d2 : pt < (l.length : Int) := by omega
    have d3 : decide (pt < (l.length : Int)) = true := decide_eq_true d2
    have d4 : decide (0 ≤ pt) = true := decide_eq_true g4
    have s1 : IntKind.i64.wrap x = x := by rw [IntKind.wrap_i64]; omega
    have s2 : IntKind.i64.wrap (pt + 1) = pt + 1 := by rw [IntKind.wrap_i64]; omega
    clear hp
    by_cases h128 : x < 128
    · have hl := HLEN.out
      rw [if_pos h128] at hl
      simp only [Option.some.injEq, Prod.mk.injEq] at hl
      obtain ⟨rfl, rfl, rfl⟩ := hl
      have F := F3.out
      rw [if_pos rfl] at F
      simp only [Option.some.injEq, Prod.mk.injEq] at F
      obtain ⟨rfl, rfl, rfl, rfl, rfl, rfl⟩ := F
      have d5 : decide (x < 128) = true := decide_eq_true h128
      go_wp2
      refine bodyPost_ret (results_ct rfl _ _ g0 35 #[.int .i64 (c / 64), .int .i64 t, .bool bc, .int .i64 x, .int .i64 (pt + 1)] (0, 0) _ rfl (rr_put _ _ _ _ _ _ _ _ _ _ _ _ _ (r3_size (r3_len HR2.out x) (pt + 1)).1) Try.underlying35 rfl (by kernel_rfl)) rfl ⟨rfl, ?_⟩
      exact rr_set5 (r3_size (r3_len HR2.out x) (pt + 1)).2.2.2.1 (r3_size (r3_len HR2.out x) (pt + 1)).2.2.2.2.1
    have s3 : IntKind.i64.wrap (x - 128) = x - 128 := by rw [IntKind.wrap_i64]; omega
    have d5 : decide (x < 128) = false := decide_eq_false h128
    by_cases h0' : x = 128
    · have hl := HLEN.out
      rw [if_neg h128, if_pos h0'] at hl
      simp only [Option.some.injEq, Prod.mk.injEq] at hl
      obtain ⟨rfl, rfl, rfl⟩ := hl
      have F := F3.out
      rw [if_neg (by decide)] at F
      simp only [Option.some.injEq, Prod.mk.injEq] at F
      obtain ⟨rfl, rfl, rfl, rfl, rfl, rfl⟩ := F
      subst h0'
      clear s1 s3 d5
      go_wp2
      refine bodyPost_ret (results_ct rfl _ _ g0 35 #[.int .i64 0, .int .i64 0, .bool false, .int .i64 0, .int .i64 0] (0, 0) _ rfl (rr_put _ _ _ _ _ _ _ _ _ _ _ _ _ HR2.out.1) Try.underlying35 rfl (by kernel_rfl)) rfl ⟨rfl, ?_⟩
      exact rr_set5 HR2.out.2.2.2.1 HR2.out.2.2.2.2.1
    by_cases h4' : x - 128 > 4
    · have hl := HLEN.out
      rw [if_neg h128, if_neg h0', if_pos h4'] at hl
      simp only [Option.some.injEq, Prod.mk.injEq] at hl
      obtain ⟨rfl, rfl, rfl⟩ := hl
      have F := F3.out
      rw [if_neg (by decide)] at F
      simp only [Option.some.injEq, Prod.mk.injEq] at F
      obtain ⟨rfl, rfl, rfl, rfl, rfl, rfl⟩ := F
      have d6 : ((x - 128 : Int) == 0) = false := beq_eq_false_iff_ne.mpr (by omega)
      have d7 : decide (4 < x - 128) = true := decide_eq_true (by omega)
      go_wp2
      refine bodyPost_ret (results_ct rfl _ _ g0 35 #[.int .i64 0, .int .i64 0, .bool false, .int .i64 0, .int .i64 0] (0, 0) _ rfl (rr_put _ _ _ _ _ _ _ _ _ _ _ _ _ HR2.out.1) Try.underlying35 rfl (by kernel_rfl)) rfl ⟨rfl, ?_⟩
      exact rr_set5 HR2.out.2.2.2.1 HR2.out.2.2.2.2.1
    have hl := HLEN.out
    rw [if_neg h128, if_neg h0', if_neg h4'] at hl
    have HL := Aside0.mk hl
    have d6 : ((x - 128 : Int) == 0) = false := beq_eq_false_iff_ne.mpr (by omega)
    have d7 : decide (4 < x - 128) = false := decide_eq_false (by omega)
    clear hl HLEN
    have hM4 : x - 128 ≤ 4 := by omega
    go_upto_region 31 with (fail)
    clear s1 s2 s3 d1 d2 d3 d4 d5 d6 d7 h128 h0' h4' g6 g7 xp2
    generalize x - 128 = M at HL hM4 ⊢
    clear z0 z1 z2 z3 z4 f0 f1 f2 f3 f4 y0 y1 y2 y3 y4 h0 h1 h2 h3 h4 q1 q3 q4 ng0 ng1
    go_wp2_with fail
    go_loopg [6, 9] k (fun kq v6 v9 w' => ∃ (p i m : Int), v6 = .int .i64 p ∧ v9 = .int .i64 i ∧ Aside0 (ref_lenL kq l M i p m = some (n, en, pn)) ∧ Aside0 (R3 w g0 g1 g2 (c / 64) t bc m 0 w'))
    case atStart => exact ⟨pt + 1, 0, 0, rfl, rfl, HL, HR2⟩
    case round =>
      obtain ⟨p, i, m, rfl, rfl, HK, HR3⟩ := hrel
      clear HL HR2
      have hk := HK.out
      clear HK
      cases gk with
      | zero => cases hk
      | succ k1 =>
      rw [ref_lenL] at hk
      have z0 := blk_cell HR3.out.1 0
      have z1 := blk_cell HR3.out.1 1
      have z2 := blk_cell HR3.out.1 2
      have z3 := blk_cell HR3.out.1 3
      have z4 := blk_cell HR3.out.1 4
      have f0 := blk_frozen HR3.out.1 0
      have f1 := blk_frozen HR3.out.1 1
      have f2 := blk_frozen HR3.out.1 2
      have f3 := blk_frozen HR3.out.1 3
      have f4 := blk_frozen HR3.out.1 4
      have y0 := blk_cell HR3.out.2.1 0
      have y1 := blk_cell HR3.out.2.1 1
      have y2 := blk_cell HR3.out.2.1 2
      have y3 := blk_cell HR3.out.2.1 3
      have y4 := blk_cell HR3.out.2.1 4
      have h0 := blk_cell HR3.out.2.2.1 0
      have h1 := blk_cell HR3.out.2.2.1 1
      have h2 := blk_cell HR3.out.2.2.1 2
      have h3 := blk_cell HR3.out.2.2.1 3
      have h4 := blk_cell HR3.out.2.2.1 4
      have q1 := blk_frozen HR3.out.2.2.1 1
      have q3 := blk_frozen HR3.out.2.2.1 3
      have q4 := blk_frozen HR3.out.2.2.1 4
      simp only [List.getElem?_toArray, List.getElem?_cons_zero, List.getElem?_cons_succ] at z0 z1 z2 z3 z4 y0 y1 y2 y3 y4 h0 h1 h2 h3 h4
      have ng0 := HR3.out.2.2.2.2.2.2.1
      have ng1 := HR3.out.2.2.2.2.2.2.2
      by_cases hi : i < M
      · rw [if_pos hi] at hk
        have e1 : decide (i < M) = true := decide_eq_true hi
        by_cases hp : p ≥ (l.length : Int)
        · rw [if_pos hp] at hk
          simp only [Option.some.injEq, Prod.mk.injEq] at hk
          obtain ⟨rfl, rfl, rfl⟩ := hk
          have F := F3.out
          rw [if_neg (by decide)] at F
          simp only [Option.some.injEq, Prod.mk.injEq] at F
          obtain ⟨rfl, rfl, rfl, rfl, rfl, rfl⟩ := F
          have e2 : decide ((l.length : Int) ≤ p) = true := decide_eq_true hp
          go_wp2
          refine bodyPost_ret (results_ct rfl _ _ g0 35 #[.int .i64 0, .int .i64 0, .bool false, .int .i64 0, .int .i64 0] (0, 0) _ rfl (rr_put _ _ _ _ _ _ _ _ _ _ _ _ _ HR3.out.1) Try.underlying35 rfl (by kernel_rfl)) rfl ⟨rfl, ?_⟩
          exact rr_set5 HR3.out.2.2.2.1 HR3.out.2.2.2.2.1
        rw [if_neg hp] at hk
        by_cases hg : ¬ (0 ≤ p ∧ p ≤ 1000000000000 ∧ 0 ≤ rd l p ∧ rd l p < 256 ∧ 0 ≤ m ∧ m ≤ 1099511627776 ∧ 0 ≤ i ∧ i ≤ 10)
        · rw [if_neg hg] at hk; cases hk
        replace hg := Decidable.of_not_not hg
        rw [if_pos hg] at hk
        obtain ⟨j1, j2, j3, j4, j5, j6, j7, j8⟩ := hg
        obtain ⟨ad2, had', xp⟩ := Kd.at_int HC.out p j1 (by omega)
        obtain rfl : ad = ad2 := by simpa using had'
        clear had'
        have xp2 := rr_cell_below HR3.out.2.2.2.1 xp
        clear xp
        obtain ⟨x, hx⟩ : ∃ x, x = rd l p := ⟨_, rfl⟩
        rw [← hx] at xp2 j3 j4 hk
        clear hx
        have e2 : decide ((l.length : Int) ≤ p) = false := decide_eq_false hp
        have e3 : p < (l.length : Int) := by omega
        have e4 : decide (p < (l.length : Int)) = true := decide_eq_true e3
        have e5 : decide (0 ≤ p) = true := decide_eq_true j1
        clear hp
        have HK := Aside0.mk hk
        clear hk
        by_cases hz : i = 0 ∧ x = 0
        · have hk := HK.out
          rw [if_pos hz] at hk
          simp only [Option.some.injEq, Prod.mk.injEq] at hk
          obtain ⟨rfl, rfl, rfl⟩ := hk
          have F := F3.out
          rw [if_neg (by decide)] at F
          simp only [Option.some.injEq, Prod.mk.injEq] at F
          obtain ⟨rfl, rfl, rfl, rfl, rfl, rfl⟩ := F
          obtain ⟨hz1, hz2⟩ := hz
          subst hz1 hz2
          go_wp2
          refine bodyPost_ret (results_ct rfl _ _ g0 35 #[.int .i64 0, .int .i64 0, .bool false, .int .i64 0, .int .i64 0] (0, 0) _ rfl (rr_put _ _ _ _ _ _ _ _ _ _ _ _ _ HR3.out.1) Try.underlying35 rfl (by kernel_rfl)) rfl ⟨rfl, ?_⟩
          exact rr_set5 HR3.out.2.2.2.1 HR3.out.2.2.2.2.1
        have hk := HK.out
        rw [if_neg hz] at hk
        have HK2 := Aside0.mk hk
        clear hk HK
        go_upto_region 36 with (fail)
        go_cut [124] (fun s124 wx => s124 = .bool false ∧ wx = wr)
        case first =>
          by_cases hi0 : i = 0
          · have b1 : ((x : Int) == 0) = false := beq_eq_false_iff_ne.mpr (fun q => hz ⟨hi0, q⟩)
            subst hi0
            clear hz
            go_wp2_with fail
            go_meet
            exact ⟨rfl, rfl⟩
          · have b1 : ((i : Int) == 0) = false := beq_eq_false_iff_ne.mpr hi0
            clear hz hi0
            go_wp2_with fail
            go_meet
            exact ⟨rfl, rfl⟩
        case rest =>
        rename World => wr2
        obtain ⟨rfl, rfl⟩ := hcut
        clear hz
        have s4 : IntKind.i64.wrap (m * 256) = m * 256 := by rw [IntKind.wrap_i64]; omega
        have s5 : IntKind.i64.wrap (m * 256 + x) = m * 256 + x := by rw [IntKind.wrap_i64]; omega
        have s6 : IntKind.i64.wrap x = x := by rw [IntKind.wrap_i64]; omega
        have s7 : IntKind.i64.wrap (p + 1) = p + 1 := by rw [IntKind.wrap_i64]; omega
        have s8 : IntKind.i64.wrap (i + 1) = i + 1 := by rw [IntKind.wrap_i64]; omega
        go_wp2_with fail
        go_region
        go_wp2_with fail
        go_roundg k1
        case measure => omega
        case rel => exact ⟨p + 1, i + 1, m * 256 + x, rfl, rfl, HK2, ⟨r3_drew (r3_len HR3.out _)⟩⟩
      · rw [if_neg hi] at hk
        have e1 : decide (i < M) = false := decide_eq_false hi
        by_cases ha : m > 2147483647
        · rw [if_pos ha] at hk
          simp only [Option.some.injEq, Prod.mk.injEq] at hk
          obtain ⟨rfl, rfl, rfl⟩ := hk
          have F := F3.out
          rw [if_neg (by decide)] at F
          simp only [Option.some.injEq, Prod.mk.injEq] at F
          obtain ⟨rfl, rfl, rfl, rfl, rfl, rfl⟩ := F
          have e2 : decide (2147483647 < m) = true := decide_eq_true ha
          go_wp2
          refine bodyPost_ret (results_ct rfl _ _ g0 35 #[.int .i64 0, .int .i64 0, .bool false, .int .i64 0, .int .i64 0] (0, 0) _ rfl (rr_put _ _ _ _ _ _ _ _ _ _ _ _ _ HR3.out.1) Try.underlying35 rfl (by kernel_rfl)) rfl ⟨rfl, ?_⟩
          exact rr_set5 HR3.out.2.2.2.1 HR3.out.2.2.2.2.1
        rw [if_neg ha] at hk
        have e2 : decide (2147483647 < m) = false := decide_eq_false ha
        by_cases hb : m < 128
        · rw [if_pos hb] at hk
          simp only [Option.some.injEq, Prod.mk.injEq] at hk
          obtain ⟨rfl, rfl, rfl⟩ := hk
          have F := F3.out
          rw [if_neg (by decide)] at F
          simp only [Option.some.injEq, Prod.mk.injEq] at F
          obtain ⟨rfl, rfl, rfl, rfl, rfl, rfl⟩ := F
          have e3 : decide (m < 128) = true := decide_eq_true hb
          go_wp2
          refine bodyPost_ret (results_ct rfl _ _ g0 35 #[.int .i64 0, .int .i64 0, .bool false, .int .i64 0, .int .i64 0] (0, 0) _ rfl (rr_put _ _ _ _ _ _ _ _ _ _ _ _ _ HR3.out.1) Try.underlying35 rfl (by kernel_rfl)) rfl ⟨rfl, ?_⟩
          exact rr_set5 HR3.out.2.2.2.1 HR3.out.2.2.2.2.1
        rw [if_neg hb] at hk
        simp only [Option.some.injEq, Prod.mk.injEq] at hk
        obtain ⟨rfl, rfl, rfl⟩ := hk
        have F := F3.out
        rw [if_pos rfl] at F
        simp only [Option.some.injEq, Prod.mk.injEq] at F
        obtain ⟨rfl, rfl, rfl, rfl, rfl, rfl⟩ := F
        have e3 : decide (m < 128) = false := decide_eq_false hb
        go_wp2
        refine bodyPost_ret (results_ct rfl _ _ g0 35 #[.int .i64 (c / 64), .int .i64 t, .bool bc, .int .i64 m, .int .i64 p] (0, 0) _ rfl (rr_put _ _ _ _ _ _ _ _ _ _ _ _ _ (r3_size HR3.out p).1) Try.underlying35 rfl (by kernel_rfl)) rfl ⟨rfl, ?_⟩
        exact rr_set5 (r3_size HR3.out p).2.2.2.1 (r3_size HR3.out p).2.2.2.2.1


theorem ref_tag_mono : ∀ k y0 y1 y2, LeO (ref_tag k y0 y1 y2) (ref_tag (k + 1) y0 y1 y2) := by
  intro k
  induction k with
  | zero => intros; exact LeO.none _
  | succ k ih =>
    intro y0 y1 y2
    rw [ref_tag, ref_tag]
    exact LeO.ite (LeO.refl _) (LeO.ite (LeO.ite (LeO.refl _) (LeO.ite (LeO.refl _) (LeO.ite (ih _ _ _) (LeO.refl _)))) (LeO.refl _))
theorem ref_lenL_mono : ∀ k y0 y1 y2 y3 y4, LeO (ref_lenL k y0 y1 y2 y3 y4) (ref_lenL (k + 1) y0 y1 y2 y3 y4) := by
  intro k
  induction k with
  | zero => intros; exact LeO.none _
  | succ k ih =>
    intro y0 y1 y2 y3 y4
    rw [ref_lenL, ref_lenL]
    exact LeO.ite (LeO.ite (LeO.refl _) (LeO.ite (LeO.ite (LeO.refl _) (ih _ _ _ _ _)) (LeO.refl _))) (LeO.refl _)
theorem ref_len_mono (k : Nat) (l : List Int) (p : Int) : LeO (ref_len k l p) (ref_len (k + 1) l p) := by
  unfold ref_len
  exact LeO.ite (LeO.refl _) (LeO.ite (LeO.ite (LeO.refl _) (LeO.ite (LeO.refl _) (LeO.ite (LeO.refl _) (ref_lenL_mono _ _ _ _ _ _)))) (LeO.refl _))
theorem sobriquetref01_Read.mono : ∀ a0 k, LeO (sobriquetref01_Read.f k a0) (sobriquetref01_Read.f (k + 1) a0) := by
  intro a0 k
  unfold sobriquetref01_Read.f
  exact LeO.ite (LeO.refl _) (LeO.ite (LeO.bind (LeO.ite (ref_tag_mono _ _ _ _) (LeO.refl _)) (fun t => LeO.ite (LeO.bind (ref_len_mono _ _ _) (fun n => LeO.refl _)) (LeO.refl _))) (LeO.refl _))
theorem sobriquetref01_Read.calls (k : Nat) (A0 : Option Addr) (c0 : Nat) (l0 : List Int) (r1 r2 : Int) (r3 : Bool) (r4 r5 r6 : Int) (w : World) (hr0 : Kd.C (Kd.int .u8) w A0 l0.length l0) (hc0 : l0.length ≤ c0) (h : sobriquetref01_Read.f k l0 = some (r1, r2, r3, r4, r5, r6)) :
    Calls Try.prog 17 #[.slice A0 l0.length c0] w fun e w' => e = .returned (.tuple #[.agg #[.int .i64 r1, .int .i64 r2, .bool r3, .int .i64 r4, .int .i64 r5], .int .i64 r6]) ∧ Below w.heap.size w w' :=
  sobriquetref01_Read.walked k A0 c0 l0 r1 r2 r3 r4 r5 r6 w hr0 hc0 h


/-! ### sobriquetref01_right: function 25 -/
def sobriquetref01_right.f (a0_0 : Int) (a0_1 : Int) (a0_2 : Bool) (a0_3 : Int) (a0_4 : Int) : Option (Bool) := if a0_0 = 0 then (if a0_1 ≥ 31 then (some true) else (if a0_1 = 8 then (some (a0_2 == true)) else (if a0_1 = 11 then (some (a0_2 == true)) else (if a0_1 = 16 then (some (a0_2 == true)) else (some (a0_2 == (a0_1 == 17))))))) else (some true)
set_option maxHeartbeats 8000000 in
set_option maxRecDepth 100000 in
theorem sobriquetref01_right.calls (a0_0 : Int) (a0_1 : Int) (a0_2 : Bool) (a0_3 : Int) (a0_4 : Int) (r : Bool) (w : World) (h : sobriquetref01_right.f a0_0 a0_1 a0_2 a0_3 a0_4 = some r) :
    Calls Try.prog 25 #[.agg #[.int .i64 a0_0, .int .i64 a0_1, .bool a0_2, .int .i64 a0_3, .int .i64 a0_4]] w fun e w' => e = .returned (.bool r) ∧ Below w.heap.size w w' := by
  have hu35 := Try.underlying35
  have HB := Aside0.mk (Below.refl w.heap.size w)
  have H : (if a0_0 = 0 then (if a0_1 ≥ 31 then (some true) else (if a0_1 = 8 then (some (a0_2 == true)) else (if a0_1 = 11 then (some (a0_2 == true)) else (if a0_1 = 16 then (some (a0_2 == true)) else (some (a0_2 == (a0_1 == 17))))))) else (some true)) = some r := h
  clear h
  by_cases c2 : a0_0 = 0
  · rw [if_pos c2] at H
    have c2b0 : (a0_0 == 0) = true := beq_iff_eq.mpr c2
    have c2b1 : (a0_0 != 0) = false := bne_eq_false_iff_eq.mpr c2
    clear c2
    by_cases c3 : a0_1 ≥ 31
    · rw [if_pos c3] at H
      have c3b0 : decide (31 ≤ a0_1) = true := decide_eq_true c3
      clear c3
      obtain rfl := Option.some.inj H
      go_enter Try.func25, Try.ntmps25
      go_wp2_with (first | ((with_reducible refine gate_dst (N := 1) rfl ?_); refine box_event ?hg (N := 1) ?hd (cs := #[.int .i64 a0_0, .int .i64 a0_1, .bool a0_2, .int .i64 a0_3, .int .i64 a0_4]) (t := 35) ?hr ?_; (case hd => rfl); (case hg => rfl); (case hr => first | (go_simp; done) | (go_simp; rfl)); intro gb104 hg w4 hbox hb; have n0_ := Aside0.mk (below_step (by repeat (first | (with_reducible first | exact HB.out | apply below_alloc | apply pw_below_drewN | apply below_drew1) | exact HB.out)) hb); have n1_ := Aside0.mk (hbox); have n2_ := Aside0.mk ((by rw [hg]; exact (below_size (by repeat (first | (with_reducible first | exact HB.out | apply below_alloc | apply pw_below_drewN | apply below_drew1) | exact HB.out))) : w.heap.size ≤ gb104)); have n3_ := Aside0.mk ((by rw [hg]; exact (below_size (by repeat (first | (with_reducible first | exact HB.out | apply below_alloc | apply pw_below_drewN | apply below_drew1) | exact HB.out))) : w.heap.size ≤ gb104)); clear HB; have HB := n0_; have BK104 := n1_; have GW104 := n2_; have GE104 := n3_; clear n0_ n1_ n2_ n3_; clear hb hbox hg; have hcz5_0 : w4.cell? ⟨gb104, 0, none⟩ = some (.int .i64 a0_0) := (blk_cell BK104.out 0).trans rfl; have hcz5_1 : w4.cell? ⟨gb104, 1, none⟩ = some (.int .i64 a0_1) := (blk_cell BK104.out 1).trans rfl; have hcz5_2 : w4.cell? ⟨gb104, 2, none⟩ = some (.bool a0_2) := (blk_cell BK104.out 2).trans rfl; have hcz5_3 : w4.cell? ⟨gb104, 3, none⟩ = some (.int .i64 a0_3) := (blk_cell BK104.out 3).trans rfl; have hcz5_4 : w4.cell? ⟨gb104, 4, none⟩ = some (.int .i64 a0_4) := (blk_cell BK104.out 4).trans rfl; have hfz5_0 := blk_frozen BK104.out 0; have hfz5_1 := blk_frozen BK104.out 1; have hfz5_2 := blk_frozen BK104.out 2; have hfz5_3 := blk_frozen BK104.out 3; have hfz5_4 := blk_frozen BK104.out 4))
      go_ret
      exact ⟨by first | rfl | (simp [errW_none, errW_some] <;> rfl) | (simp [*, errW_none, errW_some] <;> rfl), by repeat (first | (with_reducible first | exact HB.out | apply below_alloc | apply pw_below_drewN | apply below_drew1 | refine below_set ?_ GE104.out) | exact HB.out)⟩
    · rw [if_neg c3] at H
      have c3b0 : decide (31 ≤ a0_1) = false := decide_eq_false c3
      clear c3
      by_cases c6 : a0_1 = 8
      · rw [if_pos c6] at H
        have c6b0 : (a0_1 == 8) = true := beq_iff_eq.mpr c6
        have c6b1 : (a0_1 != 8) = false := bne_eq_false_iff_eq.mpr c6
        clear c6
        obtain rfl := Option.some.inj H
        go_enter Try.func25, Try.ntmps25
        go_wp2_with (first | ((with_reducible refine gate_dst (N := 1) rfl ?_); refine box_event ?hg (N := 1) ?hd (cs := #[.int .i64 a0_0, .int .i64 a0_1, .bool a0_2, .int .i64 a0_3, .int .i64 a0_4]) (t := 35) ?hr ?_; (case hd => rfl); (case hg => rfl); (case hr => first | (go_simp; done) | (go_simp; rfl)); intro gb104 hg w7 hbox hb; have n0_ := Aside0.mk (below_step (by repeat (first | (with_reducible first | exact HB.out | apply below_alloc | apply pw_below_drewN | apply below_drew1) | exact HB.out)) hb); have n1_ := Aside0.mk (hbox); have n2_ := Aside0.mk ((by rw [hg]; exact (below_size (by repeat (first | (with_reducible first | exact HB.out | apply below_alloc | apply pw_below_drewN | apply below_drew1) | exact HB.out))) : w.heap.size ≤ gb104)); have n3_ := Aside0.mk ((by rw [hg]; exact (below_size (by repeat (first | (with_reducible first | exact HB.out | apply below_alloc | apply pw_below_drewN | apply below_drew1) | exact HB.out))) : w.heap.size ≤ gb104)); clear HB; have HB := n0_; have BK104 := n1_; have GW104 := n2_; have GE104 := n3_; clear n0_ n1_ n2_ n3_; clear hb hbox hg; have hcz8_0 : w7.cell? ⟨gb104, 0, none⟩ = some (.int .i64 a0_0) := (blk_cell BK104.out 0).trans rfl; have hcz8_1 : w7.cell? ⟨gb104, 1, none⟩ = some (.int .i64 a0_1) := (blk_cell BK104.out 1).trans rfl; have hcz8_2 : w7.cell? ⟨gb104, 2, none⟩ = some (.bool a0_2) := (blk_cell BK104.out 2).trans rfl; have hcz8_3 : w7.cell? ⟨gb104, 3, none⟩ = some (.int .i64 a0_3) := (blk_cell BK104.out 3).trans rfl; have hcz8_4 : w7.cell? ⟨gb104, 4, none⟩ = some (.int .i64 a0_4) := (blk_cell BK104.out 4).trans rfl; have hfz8_0 := blk_frozen BK104.out 0; have hfz8_1 := blk_frozen BK104.out 1; have hfz8_2 := blk_frozen BK104.out 2; have hfz8_3 := blk_frozen BK104.out 3; have hfz8_4 := blk_frozen BK104.out 4))
        go_ret
        exact ⟨by first | rfl | (simp [errW_none, errW_some] <;> rfl) | (simp [*, errW_none, errW_some] <;> rfl), by repeat (first | (with_reducible first | exact HB.out | apply below_alloc | apply pw_below_drewN | apply below_drew1 | refine below_set ?_ GE104.out) | exact HB.out)⟩
      · rw [if_neg c6] at H
        have c6b0 : (a0_1 == 8) = false := beq_eq_false_iff_ne.mpr c6
        have c6b1 : (a0_1 != 8) = true := bne_iff_ne.mpr c6
        by_cases c9 : a0_1 = 11
        · rw [if_pos c9] at H
          have c9b0 : (a0_1 == 11) = true := beq_iff_eq.mpr c9
          have c9b1 : (a0_1 != 11) = false := bne_eq_false_iff_eq.mpr c9
          clear c9
          obtain rfl := Option.some.inj H
          go_enter Try.func25, Try.ntmps25
          go_wp2_with (first | ((with_reducible refine gate_dst (N := 1) rfl ?_); refine box_event ?hg (N := 1) ?hd (cs := #[.int .i64 a0_0, .int .i64 a0_1, .bool a0_2, .int .i64 a0_3, .int .i64 a0_4]) (t := 35) ?hr ?_; (case hd => rfl); (case hg => rfl); (case hr => first | (go_simp; done) | (go_simp; rfl)); intro gb104 hg w10 hbox hb; have n0_ := Aside0.mk (below_step (by repeat (first | (with_reducible first | exact HB.out | apply below_alloc | apply pw_below_drewN | apply below_drew1) | exact HB.out)) hb); have n1_ := Aside0.mk (hbox); have n2_ := Aside0.mk ((by rw [hg]; exact (below_size (by repeat (first | (with_reducible first | exact HB.out | apply below_alloc | apply pw_below_drewN | apply below_drew1) | exact HB.out))) : w.heap.size ≤ gb104)); have n3_ := Aside0.mk ((by rw [hg]; exact (below_size (by repeat (first | (with_reducible first | exact HB.out | apply below_alloc | apply pw_below_drewN | apply below_drew1) | exact HB.out))) : w.heap.size ≤ gb104)); clear HB; have HB := n0_; have BK104 := n1_; have GW104 := n2_; have GE104 := n3_; clear n0_ n1_ n2_ n3_; clear hb hbox hg; have hcz11_0 : w10.cell? ⟨gb104, 0, none⟩ = some (.int .i64 a0_0) := (blk_cell BK104.out 0).trans rfl; have hcz11_1 : w10.cell? ⟨gb104, 1, none⟩ = some (.int .i64 a0_1) := (blk_cell BK104.out 1).trans rfl; have hcz11_2 : w10.cell? ⟨gb104, 2, none⟩ = some (.bool a0_2) := (blk_cell BK104.out 2).trans rfl; have hcz11_3 : w10.cell? ⟨gb104, 3, none⟩ = some (.int .i64 a0_3) := (blk_cell BK104.out 3).trans rfl; have hcz11_4 : w10.cell? ⟨gb104, 4, none⟩ = some (.int .i64 a0_4) := (blk_cell BK104.out 4).trans rfl; have hfz11_0 := blk_frozen BK104.out 0; have hfz11_1 := blk_frozen BK104.out 1; have hfz11_2 := blk_frozen BK104.out 2; have hfz11_3 := blk_frozen BK104.out 3; have hfz11_4 := blk_frozen BK104.out 4))
          go_ret
          exact ⟨by first | rfl | (simp [errW_none, errW_some] <;> rfl) | (simp [*, errW_none, errW_some] <;> rfl), by repeat (first | (with_reducible first | exact HB.out | apply below_alloc | apply pw_below_drewN | apply below_drew1 | refine below_set ?_ GE104.out) | exact HB.out)⟩
        · rw [if_neg c9] at H
          have c9b0 : (a0_1 == 11) = false := beq_eq_false_iff_ne.mpr c9
          have c9b1 : (a0_1 != 11) = true := bne_iff_ne.mpr c9
          by_cases c12 : a0_1 = 16
          · rw [if_pos c12] at H
            have c12b0 : (a0_1 == 16) = true := beq_iff_eq.mpr c12
            have c12b1 : (a0_1 != 16) = false := bne_eq_false_iff_eq.mpr c12
            clear c12
            obtain rfl := Option.some.inj H
            go_enter Try.func25, Try.ntmps25
            go_wp2_with (first | ((with_reducible refine gate_dst (N := 1) rfl ?_); refine box_event ?hg (N := 1) ?hd (cs := #[.int .i64 a0_0, .int .i64 a0_1, .bool a0_2, .int .i64 a0_3, .int .i64 a0_4]) (t := 35) ?hr ?_; (case hd => rfl); (case hg => rfl); (case hr => first | (go_simp; done) | (go_simp; rfl)); intro gb104 hg w13 hbox hb; have n0_ := Aside0.mk (below_step (by repeat (first | (with_reducible first | exact HB.out | apply below_alloc | apply pw_below_drewN | apply below_drew1) | exact HB.out)) hb); have n1_ := Aside0.mk (hbox); have n2_ := Aside0.mk ((by rw [hg]; exact (below_size (by repeat (first | (with_reducible first | exact HB.out | apply below_alloc | apply pw_below_drewN | apply below_drew1) | exact HB.out))) : w.heap.size ≤ gb104)); have n3_ := Aside0.mk ((by rw [hg]; exact (below_size (by repeat (first | (with_reducible first | exact HB.out | apply below_alloc | apply pw_below_drewN | apply below_drew1) | exact HB.out))) : w.heap.size ≤ gb104)); clear HB; have HB := n0_; have BK104 := n1_; have GW104 := n2_; have GE104 := n3_; clear n0_ n1_ n2_ n3_; clear hb hbox hg; have hcz14_0 : w13.cell? ⟨gb104, 0, none⟩ = some (.int .i64 a0_0) := (blk_cell BK104.out 0).trans rfl; have hcz14_1 : w13.cell? ⟨gb104, 1, none⟩ = some (.int .i64 a0_1) := (blk_cell BK104.out 1).trans rfl; have hcz14_2 : w13.cell? ⟨gb104, 2, none⟩ = some (.bool a0_2) := (blk_cell BK104.out 2).trans rfl; have hcz14_3 : w13.cell? ⟨gb104, 3, none⟩ = some (.int .i64 a0_3) := (blk_cell BK104.out 3).trans rfl; have hcz14_4 : w13.cell? ⟨gb104, 4, none⟩ = some (.int .i64 a0_4) := (blk_cell BK104.out 4).trans rfl; have hfz14_0 := blk_frozen BK104.out 0; have hfz14_1 := blk_frozen BK104.out 1; have hfz14_2 := blk_frozen BK104.out 2; have hfz14_3 := blk_frozen BK104.out 3; have hfz14_4 := blk_frozen BK104.out 4))
            go_ret
            exact ⟨by first | rfl | (simp [errW_none, errW_some] <;> rfl) | (simp [*, errW_none, errW_some] <;> rfl), by repeat (first | (with_reducible first | exact HB.out | apply below_alloc | apply pw_below_drewN | apply below_drew1 | refine below_set ?_ GE104.out) | exact HB.out)⟩
          · rw [if_neg c12] at H
            have c12b0 : (a0_1 == 16) = false := beq_eq_false_iff_ne.mpr c12
            have c12b1 : (a0_1 != 16) = true := bne_iff_ne.mpr c12
            obtain rfl := Option.some.inj H
            go_enter Try.func25, Try.ntmps25
            go_wp2_with (first | ((with_reducible refine gate_dst (N := 1) rfl ?_); refine box_event ?hg (N := 1) ?hd (cs := #[.int .i64 a0_0, .int .i64 a0_1, .bool a0_2, .int .i64 a0_3, .int .i64 a0_4]) (t := 35) ?hr ?_; (case hd => rfl); (case hg => rfl); (case hr => first | (go_simp; done) | (go_simp; rfl)); intro gb104 hg w15 hbox hb; have n0_ := Aside0.mk (below_step (by repeat (first | (with_reducible first | exact HB.out | apply below_alloc | apply pw_below_drewN | apply below_drew1) | exact HB.out)) hb); have n1_ := Aside0.mk (hbox); have n2_ := Aside0.mk ((by rw [hg]; exact (below_size (by repeat (first | (with_reducible first | exact HB.out | apply below_alloc | apply pw_below_drewN | apply below_drew1) | exact HB.out))) : w.heap.size ≤ gb104)); have n3_ := Aside0.mk ((by rw [hg]; exact (below_size (by repeat (first | (with_reducible first | exact HB.out | apply below_alloc | apply pw_below_drewN | apply below_drew1) | exact HB.out))) : w.heap.size ≤ gb104)); clear HB; have HB := n0_; have BK104 := n1_; have GW104 := n2_; have GE104 := n3_; clear n0_ n1_ n2_ n3_; clear hb hbox hg; have hcz16_0 : w15.cell? ⟨gb104, 0, none⟩ = some (.int .i64 a0_0) := (blk_cell BK104.out 0).trans rfl; have hcz16_1 : w15.cell? ⟨gb104, 1, none⟩ = some (.int .i64 a0_1) := (blk_cell BK104.out 1).trans rfl; have hcz16_2 : w15.cell? ⟨gb104, 2, none⟩ = some (.bool a0_2) := (blk_cell BK104.out 2).trans rfl; have hcz16_3 : w15.cell? ⟨gb104, 3, none⟩ = some (.int .i64 a0_3) := (blk_cell BK104.out 3).trans rfl; have hcz16_4 : w15.cell? ⟨gb104, 4, none⟩ = some (.int .i64 a0_4) := (blk_cell BK104.out 4).trans rfl; have hfz16_0 := blk_frozen BK104.out 0; have hfz16_1 := blk_frozen BK104.out 1; have hfz16_2 := blk_frozen BK104.out 2; have hfz16_3 := blk_frozen BK104.out 3; have hfz16_4 := blk_frozen BK104.out 4))
            go_ret
            exact ⟨by first | rfl | (simp [errW_none, errW_some] <;> rfl) | (simp [*, errW_none, errW_some] <;> rfl), by repeat (first | (with_reducible first | exact HB.out | apply below_alloc | apply pw_below_drewN | apply below_drew1 | refine below_set ?_ GE104.out) | exact HB.out)⟩
  · rw [if_neg c2] at H
    have c2b0 : (a0_0 == 0) = false := beq_eq_false_iff_ne.mpr c2
    have c2b1 : (a0_0 != 0) = true := bne_iff_ne.mpr c2
    obtain rfl := Option.some.inj H
    go_enter Try.func25, Try.ntmps25
    go_wp2_with (first | ((with_reducible refine gate_dst (N := 1) rfl ?_); refine box_event ?hg (N := 1) ?hd (cs := #[.int .i64 a0_0, .int .i64 a0_1, .bool a0_2, .int .i64 a0_3, .int .i64 a0_4]) (t := 35) ?hr ?_; (case hd => rfl); (case hg => rfl); (case hr => first | (go_simp; done) | (go_simp; rfl)); intro gb104 hg w17 hbox hb; have n0_ := Aside0.mk (below_step (by repeat (first | (with_reducible first | exact HB.out | apply below_alloc | apply pw_below_drewN | apply below_drew1) | exact HB.out)) hb); have n1_ := Aside0.mk (hbox); have n2_ := Aside0.mk ((by rw [hg]; exact (below_size (by repeat (first | (with_reducible first | exact HB.out | apply below_alloc | apply pw_below_drewN | apply below_drew1) | exact HB.out))) : w.heap.size ≤ gb104)); have n3_ := Aside0.mk ((by rw [hg]; exact (below_size (by repeat (first | (with_reducible first | exact HB.out | apply below_alloc | apply pw_below_drewN | apply below_drew1) | exact HB.out))) : w.heap.size ≤ gb104)); clear HB; have HB := n0_; have BK104 := n1_; have GW104 := n2_; have GE104 := n3_; clear n0_ n1_ n2_ n3_; clear hb hbox hg; have hcz18_0 : w17.cell? ⟨gb104, 0, none⟩ = some (.int .i64 a0_0) := (blk_cell BK104.out 0).trans rfl; have hcz18_1 : w17.cell? ⟨gb104, 1, none⟩ = some (.int .i64 a0_1) := (blk_cell BK104.out 1).trans rfl; have hcz18_2 : w17.cell? ⟨gb104, 2, none⟩ = some (.bool a0_2) := (blk_cell BK104.out 2).trans rfl; have hcz18_3 : w17.cell? ⟨gb104, 3, none⟩ = some (.int .i64 a0_3) := (blk_cell BK104.out 3).trans rfl; have hcz18_4 : w17.cell? ⟨gb104, 4, none⟩ = some (.int .i64 a0_4) := (blk_cell BK104.out 4).trans rfl; have hfz18_0 := blk_frozen BK104.out 0; have hfz18_1 := blk_frozen BK104.out 1; have hfz18_2 := blk_frozen BK104.out 2; have hfz18_3 := blk_frozen BK104.out 3; have hfz18_4 := blk_frozen BK104.out 4))
    go_ret
    exact ⟨by first | rfl | (simp [errW_none, errW_some] <;> rfl) | (simp [*, errW_none, errW_some] <;> rfl), by repeat (first | (with_reducible first | exact HB.out | apply below_alloc | apply pw_below_drewN | apply below_drew1 | refine below_set ?_ GE104.out) | exact HB.out)⟩

end Go.Proofs.Ytogbpdmncnldhaa.MWellExact
