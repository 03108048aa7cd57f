-- Written by a program of this session over the translation; checked by Lean alone.
import Derived.Test.YtdnclldebkpkfaaDoorMOidExactx0
import Derived.Test.YtdnclldebkpkfaaDoorMOidExactx3
namespace Go.Proofs.YtdnclldebkpkfaaDoor.MOidExact
open Go.RowKit Go.Proofs.YtdnclldebkpkfaaDoorW.PrintWords Go.Proofs.YtdnclldebkpkfaaDoorW.PrintLast Go.Proofs.YtdnclldebkpkfaaDoorW.PrintMore
attribute [local go_sem] max2_int min2_int max_two min_two max_three min_three max_four min_four   -- for this text's walks alone
set_option linter.unusedVariables false
set_option linter.unusedSimpArgs false
set_option linter.unnecessarySimpa false

/-! ### sobriquetref01_ReadOid: function 15 -/
def sobriquetref01_ReadOid.l0 : Nat → List Int → List Int → Int → Bool → Int → Option (List Int × Bool)
  | 0, _, _, _, _, _ => none
  | k + 1, x0, x4, x5, x6, x7 => if x7 < (x0.length : Int) then (if x6 = true then (if x5 > 72057594037927935 then (some (([] : List Int), false)) else (if x5 = 72057594037927935 then (if 0 ≤ x7 then (if (Int.tmod (wrap64 (rd x0 x7)) 128) > 127 then (some (([] : List Int), false)) else (if (rd x0 x7) ≥ 128 then (sobriquetref01_ReadOid.l0 k x0 x4 (wrap64 ((wrap64 (x5 * 128)) + (Int.tmod (wrap64 (rd x0 x7)) 128))) (decide ((rd x0 x7) ≥ 128)) (wrap64 (x7 + 1))) else (if (x4.length : Int) = 0 then ((some (([mn (wrap64 (Int.tdiv (wrap64 ((wrap64 (x5 * 128)) + (Int.tmod (wrap64 (rd x0 x7)) 128))) 40)) 2, wrap64 ((wrap64 ((wrap64 (x5 * 128)) + (Int.tmod (wrap64 (rd x0 x7)) 128))) - (wrap64 (40 * (mn (wrap64 (Int.tdiv (wrap64 ((wrap64 (x5 * 128)) + (Int.tmod (wrap64 (rd x0 x7)) 128))) 40)) 2))))] : List Int) : List Int)).bind fun y207 => (if x4.length + y207.length < 17592186044416 then ((some (x4 ++ y207 : List Int)).bind fun y210 => (if (y210.length : Int) > 40 then (some (([] : List Int), false)) else (sobriquetref01_ReadOid.l0 k x0 y210 0 (decide ((rd x0 x7) ≥ 128)) (wrap64 (x7 + 1))))) else (none))) else (if x4.length < 17592186044416 then ((some (x4 ++ [wrap64 ((wrap64 (x5 * 128)) + (Int.tmod (wrap64 (rd x0 x7)) 128))] : List Int)).bind fun y213 => (if (y213.length : Int) > 40 then (some (([] : List Int), false)) else (sobriquetref01_ReadOid.l0 k x0 y213 0 (decide ((rd x0 x7) ≥ 128)) (wrap64 (x7 + 1))))) else (none))))) else (none)) else (if 0 ≤ x7 then (if (rd x0 x7) ≥ 128 then (sobriquetref01_ReadOid.l0 k x0 x4 (wrap64 ((wrap64 (x5 * 128)) + (Int.tmod (wrap64 (rd x0 x7)) 128))) (decide ((rd x0 x7) ≥ 128)) (wrap64 (x7 + 1))) else (if (x4.length : Int) = 0 then ((some (([mn (wrap64 (Int.tdiv (wrap64 ((wrap64 (x5 * 128)) + (Int.tmod (wrap64 (rd x0 x7)) 128))) 40)) 2, wrap64 ((wrap64 ((wrap64 (x5 * 128)) + (Int.tmod (wrap64 (rd x0 x7)) 128))) - (wrap64 (40 * (mn (wrap64 (Int.tdiv (wrap64 ((wrap64 (x5 * 128)) + (Int.tmod (wrap64 (rd x0 x7)) 128))) 40)) 2))))] : List Int) : List Int)).bind fun y218 => (if x4.length + y218.length < 17592186044416 then ((some (x4 ++ y218 : List Int)).bind fun y221 => (if (y221.length : Int) > 40 then (some (([] : List Int), false)) else (sobriquetref01_ReadOid.l0 k x0 y221 0 (decide ((rd x0 x7) ≥ 128)) (wrap64 (x7 + 1))))) else (none))) else (if x4.length < 17592186044416 then ((some (x4 ++ [wrap64 ((wrap64 (x5 * 128)) + (Int.tmod (wrap64 (rd x0 x7)) 128))] : List Int)).bind fun y224 => (if (y224.length : Int) > 40 then (some (([] : List Int), false)) else (sobriquetref01_ReadOid.l0 k x0 y224 0 (decide ((rd x0 x7) ≥ 128)) (wrap64 (x7 + 1))))) else (none)))) else (none)))) else (if 0 ≤ x7 then (if (rd x0 x7) = 128 then (some (([] : List Int), false)) else (if x5 > 72057594037927935 then (some (([] : List Int), false)) else (if x5 = 72057594037927935 then (if (Int.tmod (wrap64 (rd x0 x7)) 128) > 127 then (some (([] : List Int), false)) else (if (rd x0 x7) ≥ 128 then (sobriquetref01_ReadOid.l0 k x0 x4 (wrap64 ((wrap64 (x5 * 128)) + (Int.tmod (wrap64 (rd x0 x7)) 128))) (decide ((rd x0 x7) ≥ 128)) (wrap64 (x7 + 1))) else (if (x4.length : Int) = 0 then ((some (([mn (wrap64 (Int.tdiv (wrap64 ((wrap64 (x5 * 128)) + (Int.tmod (wrap64 (rd x0 x7)) 128))) 40)) 2, wrap64 ((wrap64 ((wrap64 (x5 * 128)) + (Int.tmod (wrap64 (rd x0 x7)) 128))) - (wrap64 (40 * (mn (wrap64 (Int.tdiv (wrap64 ((wrap64 (x5 * 128)) + (Int.tmod (wrap64 (rd x0 x7)) 128))) 40)) 2))))] : List Int) : List Int)).bind fun y231 => (if x4.length + y231.length < 17592186044416 then ((some (x4 ++ y231 : List Int)).bind fun y234 => (if (y234.length : Int) > 40 then (some (([] : List Int), false)) else (sobriquetref01_ReadOid.l0 k x0 y234 0 (decide ((rd x0 x7) ≥ 128)) (wrap64 (x7 + 1))))) else (none))) else (if x4.length < 17592186044416 then ((some (x4 ++ [wrap64 ((wrap64 (x5 * 128)) + (Int.tmod (wrap64 (rd x0 x7)) 128))] : List Int)).bind fun y237 => (if (y237.length : Int) > 40 then (some (([] : List Int), false)) else (sobriquetref01_ReadOid.l0 k x0 y237 0 (decide ((rd x0 x7) ≥ 128)) (wrap64 (x7 + 1))))) else (none))))) else (if (rd x0 x7) ≥ 128 then (sobriquetref01_ReadOid.l0 k x0 x4 (wrap64 ((wrap64 (x5 * 128)) + (Int.tmod (wrap64 (rd x0 x7)) 128))) (decide ((rd x0 x7) ≥ 128)) (wrap64 (x7 + 1))) else (if (x4.length : Int) = 0 then ((some (([mn (wrap64 (Int.tdiv (wrap64 ((wrap64 (x5 * 128)) + (Int.tmod (wrap64 (rd x0 x7)) 128))) 40)) 2, wrap64 ((wrap64 ((wrap64 (x5 * 128)) + (Int.tmod (wrap64 (rd x0 x7)) 128))) - (wrap64 (40 * (mn (wrap64 (Int.tdiv (wrap64 ((wrap64 (x5 * 128)) + (Int.tmod (wrap64 (rd x0 x7)) 128))) 40)) 2))))] : List Int) : List Int)).bind fun y242 => (if x4.length + y242.length < 17592186044416 then ((some (x4 ++ y242 : List Int)).bind fun y245 => (if (y245.length : Int) > 40 then (some (([] : List Int), false)) else (sobriquetref01_ReadOid.l0 k x0 y245 0 (decide ((rd x0 x7) ≥ 128)) (wrap64 (x7 + 1))))) else (none))) else (if x4.length < 17592186044416 then ((some (x4 ++ [wrap64 ((wrap64 (x5 * 128)) + (Int.tmod (wrap64 (rd x0 x7)) 128))] : List Int)).bind fun y248 => (if (y248.length : Int) > 40 then (some (([] : List Int), false)) else (sobriquetref01_ReadOid.l0 k x0 y248 0 (decide ((rd x0 x7) ≥ 128)) (wrap64 (x7 + 1))))) else (none))))))) else (none))) else (if x6 = true then (some (([] : List Int), false)) else ((sobriquetref01_Oid.f k x4).bind fun t251 => (if t251 = true then (some (x4, true)) else (some (([] : List Int), false)))))
def sobriquetref01_ReadOid.f (k : Nat) (l0 : List Int) : Option (List Int × Bool) := sobriquetref01_ReadOid.l0 k l0 ([] : List Int) 0 false 0
theorem sobriquetref01_ReadOid.mono_l : ∀ k, (∀ y0 y1 y2 y3 y4, LeO (sobriquetref01_ReadOid.l0 k y0 y1 y2 y3 y4) (sobriquetref01_ReadOid.l0 (k + 1) y0 y1 y2 y3 y4))
  | 0 => fun _ _ _ _ _ r h => by simp [sobriquetref01_ReadOid.l0] at h
  | k + 1 => by
    have ih0 := sobriquetref01_ReadOid.mono_l k
    · intro y0 y1 y2 y3 y4
      unfold sobriquetref01_ReadOid.l0
      repeat' first
      | (with_reducible exact ih0 _ _ _ _ _)
      | (with_reducible exact sobriquetref01_Oid.mono _ _)
      | (with_reducible exact LeO.refl _)
      | (with_reducible exact LeO.none _)
      | (with_reducible refine LeO.ite ?_ ?_)
      | (with_reducible refine LeO.bind ?_ (fun _ => ?_))
      | exact ih0 _ _ _ _ _
      | exact sobriquetref01_Oid.mono _ _
      | exact LeO.none _
      | refine LeO.ite ?_ ?_
      | refine LeO.bind ?_ (fun _ => ?_)
theorem sobriquetref01_ReadOid.mono : ∀ a0 k, LeO (sobriquetref01_ReadOid.f k a0) (sobriquetref01_ReadOid.f (k + 1) a0) := by
  intro a0 k
  have ih0 := sobriquetref01_ReadOid.mono_l k
  unfold sobriquetref01_ReadOid.f
  repeat' first
      | (with_reducible exact ih0 _ _ _ _ _)
      | (with_reducible exact sobriquetref01_Oid.mono _ _)
      | (with_reducible exact LeO.refl _)
      | (with_reducible exact LeO.none _)
      | (with_reducible refine LeO.ite ?_ ?_)
      | (with_reducible refine LeO.bind ?_ (fun _ => ?_))
      | exact ih0 _ _ _ _ _
      | exact sobriquetref01_Oid.mono _ _
      | exact LeO.none _
      | refine LeO.ite ?_ ?_
      | refine LeO.bind ?_ (fun _ => ?_)
set_option maxHeartbeats 8000000 in
set_option maxRecDepth 100000 in
theorem sobriquetref01_ReadOid.calls (k : Nat) (A0 : Option Addr) (c0 : Nat) (l0 : List Int) (r1 : List Int) (r2 : Bool) (w : World) (hr0 : Kd.C (Kd.int .u8) w A0 l0.length l0) (hc0 : l0.length ≤ c0) (h : sobriquetref01_ReadOid.f k l0 = some (r1, r2)) :
    Calls Tryd.prog 15 #[.slice A0 l0.length c0] w fun e w' => ∃ v0_ : Value, e = .returned (.tuple #[v0_, .bool r2]) ∧ Kd.R (Kd.int .i64) 3 w' w.heap.size (fun _ => True) v0_ r1 ∧ Below w.heap.size w w' := by
  have HR0 := Aside0.mk hr0
  have HC0 := Aside0.mk hc0
  clear hr0 hc0
  have HB := Aside0.mk (Below.refl w.heap.size w)
  have H : (sobriquetref01_ReadOid.l0 k l0 ([] : List Int) 0 false 0) = some (r1, r2) := h
  clear h
  have H' := Aside0.mk H
  clear H
  go_enter Tryd.func15, Tryd.ntmps15
  go_wp2
  go_loopg [4, 5, 6, 7] k (fun kq v4 v5 v6 v7 w' => ∃ (x4_1 : List Int) (x5_1 : Int) (x6_1 : Bool) (x7_1 : Int), v5 = .int .i64 x5_1 ∧ v6 = .bool x6_1 ∧ v7 = .int .i64 x7_1 ∧ Aside0 (sobriquetref01_ReadOid.l0 kq l0 x4_1 x5_1 x6_1 x7_1 = some (r1, r2)) ∧ Aside0 (kq ≤ k) ∧ Aside0 (Kd.R (Kd.int .i64) 3 w' w.heap.size (fun _ => True) v4 x4_1) ∧ Aside0 (Below w.heap.size w w'))
  case atStart => exact ⟨(([] : List Int)), (0), (false), (0), (by first | rfl | (simp; done) | (simp [*]; done)), (by first | rfl | (simp; done) | (simp [*]; done)), (by first | rfl | (simp; done) | (simp [*]; done)), H', ⟨Nat.le_refl _⟩, ⟨by first | exact Kd.R_nil _ _ _ _ _ | exact Kd.N_nil _ _ _ _ _ | exact Kd.V_nil _ _ _ _ _ | exact Kd.Q_nil _ _ _ _ _ | exact Kd.S_nil _ _ _ _ _⟩, ⟨by repeat (first | (with_reducible first | exact HB.out | apply below_alloc | apply pw_below_drewN | apply below_drew1) | exact HB.out)⟩⟩
  case round =>
    clear H'
    try clear c1
    obtain ⟨x4_1, x5_1, x6_1, x7_1, rfl, rfl, rfl, HA, HK1, HO_4, HB⟩ := hrel
    cases gk with
    | zero => exact absurd HA.out (by simp [sobriquetref01_ReadOid.l0])
    | succ k1 =>
      have H := HA.out
      clear HA
      simp only [sobriquetref01_ReadOid.l0] at H
      by_cases c2 : x7_1 < (l0.length : Int)
      · rw [if_pos c2] at H
        have c2b0 : decide (x7_1 < (l0.length : Int)) = true := decide_eq_true c2
        clear c2
        by_cases c3 : x6_1 = true
        · subst c3
          have H1 : (if x5_1 > 72057594037927935 then (some (([] : List Int), false)) else (if x5_1 = 72057594037927935 then (if 0 ≤ x7_1 then (if (Int.tmod (wrap64 (rd l0 x7_1)) 128) > 127 then (some (([] : List Int), false)) else (if (rd l0 x7_1) ≥ 128 then (sobriquetref01_ReadOid.l0 k1 l0 x4_1 (wrap64 ((wrap64 (x5_1 * 128)) + (Int.tmod (wrap64 (rd l0 x7_1)) 128))) (decide ((rd l0 x7_1) ≥ 128)) (wrap64 (x7_1 + 1))) else (if (x4_1.length : Int) = 0 then ((some (([mn (wrap64 (Int.tdiv (wrap64 ((wrap64 (x5_1 * 128)) + (Int.tmod (wrap64 (rd l0 x7_1)) 128))) 40)) 2, wrap64 ((wrap64 ((wrap64 (x5_1 * 128)) + (Int.tmod (wrap64 (rd l0 x7_1)) 128))) - (wrap64 (40 * (mn (wrap64 (Int.tdiv (wrap64 ((wrap64 (x5_1 * 128)) + (Int.tmod (wrap64 (rd l0 x7_1)) 128))) 40)) 2))))] : List Int) : List Int)).bind fun y207 => (if x4_1.length + y207.length < 17592186044416 then ((some (x4_1 ++ y207 : List Int)).bind fun y210 => (if (y210.length : Int) > 40 then (some (([] : List Int), false)) else (sobriquetref01_ReadOid.l0 k1 l0 y210 0 (decide ((rd l0 x7_1) ≥ 128)) (wrap64 (x7_1 + 1))))) else (none))) else (if x4_1.length < 17592186044416 then ((some (x4_1 ++ [wrap64 ((wrap64 (x5_1 * 128)) + (Int.tmod (wrap64 (rd l0 x7_1)) 128))] : List Int)).bind fun y213 => (if (y213.length : Int) > 40 then (some (([] : List Int), false)) else (sobriquetref01_ReadOid.l0 k1 l0 y213 0 (decide ((rd l0 x7_1) ≥ 128)) (wrap64 (x7_1 + 1))))) else (none))))) else (none)) else (if 0 ≤ x7_1 then (if (rd l0 x7_1) ≥ 128 then (sobriquetref01_ReadOid.l0 k1 l0 x4_1 (wrap64 ((wrap64 (x5_1 * 128)) + (Int.tmod (wrap64 (rd l0 x7_1)) 128))) (decide ((rd l0 x7_1) ≥ 128)) (wrap64 (x7_1 + 1))) else (if (x4_1.length : Int) = 0 then ((some (([mn (wrap64 (Int.tdiv (wrap64 ((wrap64 (x5_1 * 128)) + (Int.tmod (wrap64 (rd l0 x7_1)) 128))) 40)) 2, wrap64 ((wrap64 ((wrap64 (x5_1 * 128)) + (Int.tmod (wrap64 (rd l0 x7_1)) 128))) - (wrap64 (40 * (mn (wrap64 (Int.tdiv (wrap64 ((wrap64 (x5_1 * 128)) + (Int.tmod (wrap64 (rd l0 x7_1)) 128))) 40)) 2))))] : List Int) : List Int)).bind fun y218 => (if x4_1.length + y218.length < 17592186044416 then ((some (x4_1 ++ y218 : List Int)).bind fun y221 => (if (y221.length : Int) > 40 then (some (([] : List Int), false)) else (sobriquetref01_ReadOid.l0 k1 l0 y221 0 (decide ((rd l0 x7_1) ≥ 128)) (wrap64 (x7_1 + 1))))) else (none))) else (if x4_1.length < 17592186044416 then ((some (x4_1 ++ [wrap64 ((wrap64 (x5_1 * 128)) + (Int.tmod (wrap64 (rd l0 x7_1)) 128))] : List Int)).bind fun y224 => (if (y224.length : Int) > 40 then (some (([] : List Int), false)) else (sobriquetref01_ReadOid.l0 k1 l0 y224 0 (decide ((rd l0 x7_1) ≥ 128)) (wrap64 (x7_1 + 1))))) else (none)))) else (none)))) = some (r1, r2) := by rw [if_pos rfl] at H; exact H
          clear H
          have H := H1
          clear H1
          by_cases c4 : x5_1 > 72057594037927935
          · rw [if_pos c4] at H
            have c4b0 : decide (72057594037927935 < x5_1) = true := decide_eq_true c4
            clear c4
            simp only [Option.some.injEq, Prod.mk.injEq] at H
            obtain ⟨rfl, rfl⟩ := H
            go_wp2
            go_ret2
            exact ⟨_, by first | rfl | (simp [errW_none, errW_some] <;> rfl) | (simp [*, errW_none, errW_some] <;> rfl), by first | exact Kd.R_nil _ _ _ _ _ | exact Kd.N_nil _ _ _ _ _ | exact Kd.V_nil _ _ _ _ _ | exact Kd.Q_nil _ _ _ _ _ | exact Kd.S_nil _ _ _ _ _, by repeat (first | (with_reducible first | exact HB.out | apply below_alloc | apply pw_below_drewN | apply below_drew1) | exact HB.out)⟩
          · rw [if_neg c4] at H
            have c4b0 : decide (72057594037927935 < x5_1) = false := decide_eq_false c4
            clear c4
            by_cases c5 : x5_1 = 72057594037927935
            · rw [if_pos c5] at H
              have c5b0 : (x5_1 == 72057594037927935) = true := beq_iff_eq.mpr c5
              have c5b1 : (x5_1 != 72057594037927935) = false := bne_eq_false_iff_eq.mpr c5
              clear c5
              by_cases c6 : 0 ≤ x7_1
              · rw [if_pos c6] at H
                have c6b0 : decide (0 ≤ x7_1) = true := decide_eq_true c6
                clear c6
                by_cases c7 : (Int.tmod (wrap64 (rd l0 x7_1)) 128) > 127
                · rw [if_pos c7] at H
                  have c7b0 : decide (127 < (Int.tmod (wrap64 (rd l0 x7_1)) 128)) = true := decide_eq_true c7
                  clear c7
                  simp only [Option.some.injEq, Prod.mk.injEq] at H
                  obtain ⟨rfl, rfl⟩ := H
                  have p204 : 0 ≤ (x7_1 : Int) := of_decide_eq_true (by first | (with_reducible assumption) | assumption)
                  have q204 : x7_1 < (l0.length : Int) := of_decide_eq_true (by first | (with_reducible assumption) | assumption)
                  obtain ⟨ad204, e204, hx204_0⟩ := Kd.at_int HR0.out x7_1 p204 q204
                  cases e204
                  replace hx204_0 := (HB.out.cell (World.block_lt_of_cell? w _ hx204_0)).trans hx204_0
                  replace p204 := eq_true p204
                  replace q204 := eq_true q204
                  go_wp2
                  go_ret2
                  exact ⟨_, by first | rfl | (simp [errW_none, errW_some] <;> rfl) | (simp [*, errW_none, errW_some] <;> rfl), by first | exact Kd.R_nil _ _ _ _ _ | exact Kd.N_nil _ _ _ _ _ | exact Kd.V_nil _ _ _ _ _ | exact Kd.Q_nil _ _ _ _ _ | exact Kd.S_nil _ _ _ _ _, by repeat (first | (with_reducible first | exact HB.out | apply below_alloc | apply pw_below_drewN | apply below_drew1) | exact HB.out)⟩
                · rw [if_neg c7] at H
                  have c7b0 : decide (127 < (Int.tmod (wrap64 (rd l0 x7_1)) 128)) = false := decide_eq_false c7
                  clear c7
                  by_cases c8 : (rd l0 x7_1) ≥ 128
                  · rw [if_pos c8] at H
                    have c8b0 : decide (128 ≤ (rd l0 x7_1)) = true := decide_eq_true c8
                    clear c8
                    have H' := Aside0.mk H
                    clear H
                    have p204 : 0 ≤ (x7_1 : Int) := of_decide_eq_true (by first | (with_reducible assumption) | assumption)
                    have q204 : x7_1 < (l0.length : Int) := of_decide_eq_true (by first | (with_reducible assumption) | assumption)
                    obtain ⟨ad204, e204, hx204_0⟩ := Kd.at_int HR0.out x7_1 p204 q204
                    cases e204
                    replace hx204_0 := (HB.out.cell (World.block_lt_of_cell? w _ hx204_0)).trans hx204_0
                    replace p204 := eq_true p204
                    replace q204 := eq_true q204
                    have p205 : 0 ≤ (x7_1 : Int) := of_decide_eq_true (by first | (with_reducible assumption) | assumption)
                    have q205 : x7_1 < (l0.length : Int) := of_decide_eq_true (by first | (with_reducible assumption) | assumption)
                    obtain ⟨ad205, e205, hx205_0⟩ := Kd.at_int HR0.out x7_1 p205 q205
                    obtain rfl : ad204 = ad205 := (by injection e205)
                    replace hx205_0 := (HB.out.cell (World.block_lt_of_cell? w _ hx205_0)).trans hx205_0
                    replace p205 := eq_true p205
                    replace q205 := eq_true q205
                    have p206 : 0 ≤ (x7_1 : Int) := of_decide_eq_true (by first | (with_reducible assumption) | assumption)
                    have q206 : x7_1 < (l0.length : Int) := of_decide_eq_true (by first | (with_reducible assumption) | assumption)
                    obtain ⟨ad206, e206, hx206_0⟩ := Kd.at_int HR0.out x7_1 p206 q206
                    obtain rfl : ad204 = ad206 := (by injection e206)
                    replace hx206_0 := (HB.out.cell (World.block_lt_of_cell? w _ hx206_0)).trans hx206_0
                    replace p206 := eq_true p206
                    replace q206 := eq_true q206
                    go_wp2
                    go_roundg k1
                    case measure => have := HK1.out; omega
                    case rel => exact ⟨(x4_1), (wrap64 ((wrap64 (x5_1 * 128)) + (Int.tmod (wrap64 (rd l0 x7_1)) 128))), (decide ((rd l0 x7_1) ≥ 128)), (wrap64 (x7_1 + 1)), (by first | rfl | (simp; done) | (simp [*]; done)), (by first | rfl | (simp; done) | (simp [*]; done)), (by first | rfl | (simp; done) | (simp [*]; done)), H', ⟨by have := HK1.out; omega⟩, ⟨by (with_reducible repeat (first | apply Kd.R_alloc | apply Kd.R_drewN | apply Kd.R_drew)); exact HO_4.out⟩, ⟨by repeat (first | (with_reducible first | exact HB.out | apply below_alloc | apply pw_below_drewN | apply below_drew1) | exact HB.out)⟩⟩
                  · rw [if_neg c8] at H
                    have c8b0 : decide (128 ≤ (rd l0 x7_1)) = false := decide_eq_false c8
                    clear c8
                    by_cases c9 : (x4_1.length : Int) = 0
                    · rw [if_pos c9] at H
                      have c9b0 : ((x4_1.length : Int) == 0) = true := beq_iff_eq.mpr c9
                      have c9b1 : ((x4_1.length : Int) != 0) = false := bne_eq_false_iff_eq.mpr c9
                      clear c9
                      obtain ⟨ji10, hji10⟩ : ∃ j_ : Int, (mn (wrap64 (Int.tdiv (wrap64 ((wrap64 (x5_1 * 128)) + (Int.tmod (wrap64 (rd l0 x7_1)) 128))) 40)) 2) = j_ := ⟨_, rfl⟩
                      replace H : ((some (([ji10, wrap64 ((wrap64 ((wrap64 (x5_1 * 128)) + (Int.tmod (wrap64 (rd l0 x7_1)) 128))) - (wrap64 (40 * (ji10))))] : List Int) : List Int)).bind fun y207 => (if x4_1.length + y207.length < 17592186044416 then ((some (x4_1 ++ y207 : List Int)).bind fun y210 => (if (y210.length : Int) > 40 then (some (([] : List Int), false)) else (sobriquetref01_ReadOid.l0 k1 l0 y210 0 (decide ((rd l0 x7_1) ≥ 128)) (wrap64 (x7_1 + 1))))) else (none))) = some (r1, r2) := by first | (rw [hji10] at H; exact H) | (simp only [hji10] at H ⊢; exact H)
                      have hji10_ : (if 2 < (wrap64 (Int.tdiv (wrap64 ((wrap64 (x5_1 * 128)) + (Int.tmod (wrap64 (rd l0 x7_1)) 128))) 40)) then 2 else (wrap64 (Int.tdiv (wrap64 ((wrap64 (x5_1 * 128)) + (Int.tmod (wrap64 (rd l0 x7_1)) 128))) 40))) = ji10 := hji10
                      obtain ⟨y207, hy207⟩ : ∃ y_ : List Int, y_ = (([ji10, wrap64 ((wrap64 ((wrap64 (x5_1 * 128)) + (Int.tmod (wrap64 (rd l0 x7_1)) 128))) - (wrap64 (40 * (ji10))))] : List Int)) := ⟨_, rfl⟩
                      replace H : (if x4_1.length + y207.length < 17592186044416 then ((some (x4_1 ++ y207 : List Int)).bind fun y210 => (if (y210.length : Int) > 40 then (some (([] : List Int), false)) else (sobriquetref01_ReadOid.l0 k1 l0 y210 0 (decide ((rd l0 x7_1) ≥ 128)) (wrap64 (x7_1 + 1))))) else (none)) = some (r1, r2) := by first | (rw [hy207]; with_reducible exact H) | (have H2_ := (Option.bind_some _ _).symm.trans H; rw [hy207]; with_reducible exact H2_) | (have H2_ := (Option.bind_some _ _).symm.trans H; with_reducible exact H2_) | with_reducible exact H | (rw [hy207]; exact H) | exact H
                      have Ny207 := Aside0.mk hy207
                      clear hy207
                      by_cases c11 : x4_1.length + y207.length < 17592186044416
                      · rw [if_pos c11] at H
                        have LMc11 := Aside0.mk c11
                        clear c11
                        obtain ⟨y210, hy210⟩ : ∃ y_ : List Int, y_ = (x4_1 ++ y207) := ⟨_, rfl⟩
                        replace H : (if (y210.length : Int) > 40 then (some (([] : List Int), false)) else (sobriquetref01_ReadOid.l0 k1 l0 y210 0 (decide ((rd l0 x7_1) ≥ 128)) (wrap64 (x7_1 + 1)))) = some (r1, r2) := by first | (rw [hy210]; with_reducible exact H) | (have H2_ := (Option.bind_some _ _).symm.trans H; rw [hy210]; with_reducible exact H2_) | (have H2_ := (Option.bind_some _ _).symm.trans H; with_reducible exact H2_) | with_reducible exact H | (rw [hy210]; exact H) | exact H
                        have Ny210 := Aside0.mk hy210
                        clear hy210
                        by_cases c12 : (y210.length : Int) > 40
                        · rw [if_pos c12] at H
                          have c12b0 : decide (40 < (y210.length : Int)) = true := decide_eq_true c12
                          have c12b1 : decide (40 < y210.length) = true := decide_eq_true (by omega)
                          clear c12
                          simp only [Option.some.injEq, Prod.mk.injEq] at H
                          obtain ⟨rfl, rfl⟩ := H
                          have p204 : 0 ≤ (x7_1 : Int) := of_decide_eq_true (by first | (with_reducible assumption) | assumption)
                          have q204 : x7_1 < (l0.length : Int) := of_decide_eq_true (by first | (with_reducible assumption) | assumption)
                          obtain ⟨ad204, e204, hx204_0⟩ := Kd.at_int HR0.out x7_1 p204 q204
                          cases e204
                          replace hx204_0 := (HB.out.cell (World.block_lt_of_cell? w _ hx204_0)).trans hx204_0
                          replace p204 := eq_true p204
                          replace q204 := eq_true q204
                          have p205 : 0 ≤ (x7_1 : Int) := of_decide_eq_true (by first | (with_reducible assumption) | assumption)
                          have q205 : x7_1 < (l0.length : Int) := of_decide_eq_true (by first | (with_reducible assumption) | assumption)
                          obtain ⟨ad205, e205, hx205_0⟩ := Kd.at_int HR0.out x7_1 p205 q205
                          obtain rfl : ad204 = ad205 := (by injection e205)
                          replace hx205_0 := (HB.out.cell (World.block_lt_of_cell? w _ hx205_0)).trans hx205_0
                          replace p205 := eq_true p205
                          replace q205 := eq_true q205
                          have p206 : 0 ≤ (x7_1 : Int) := of_decide_eq_true (by first | (with_reducible assumption) | assumption)
                          have q206 : x7_1 < (l0.length : Int) := of_decide_eq_true (by first | (with_reducible assumption) | assumption)
                          obtain ⟨ad206, e206, hx206_0⟩ := Kd.at_int HR0.out x7_1 p206 q206
                          obtain rfl : ad204 = ad206 := (by injection e206)
                          replace hx206_0 := (HB.out.cell (World.block_lt_of_cell? w _ hx206_0)).trans hx206_0
                          replace p206 := eq_true p206
                          replace q206 := eq_true q206
                          obtain ⟨Ao13, co13, eo13⟩ := Kd.R_slice HO_4.out
                          subst eo13
                          go_wp2_with (first | ((with_reducible refine gate_dst (N := 68) rfl ?_); refine Kd.R_lit (Kd.int .i64) _ 3 ?hg (N := 68) ?hd (xs := ([ji10, wrap64 ((wrap64 ((wrap64 (x5_1 * 128)) + (Int.tmod (wrap64 (rd l0 x7_1)) 128))) - (wrap64 (40 * (ji10))))] : List Int)) (inner := [.int .i64 ji10, .int .i64 (wrap64 ((wrap64 ((wrap64 (x5_1 * 128)) + (Int.tmod (wrap64 (rd l0 x7_1)) 128))) - (wrap64 (40 * (ji10)))))]) (ok := fun _ => True) (okp := fun _ => True) ?hr ?hp (fun _ hk => hk) trivial (Below.refl _ _) (Nat.le_refl _) (by simp) ?_; (case hd => rfl); (case hg => rfl); (case hr => first | (go_simp; done) | (go_simp; rfl)); (case hp => exact (Reps.one (show Kd.M (Kd.int .i64) _ _ _ ji10 [.int .i64 ji10] from rfl) (Reps.one (show Kd.M (Kd.int .i64) _ _ _ (wrap64 ((wrap64 ((wrap64 (x5_1 * 128)) + (Int.tmod (wrap64 (rd l0 x7_1)) 128))) - (wrap64 (40 * (ji10))))) [.int .i64 (wrap64 ((wrap64 ((wrap64 (x5_1 * 128)) + (Int.tmod (wrap64 (rd l0 x7_1)) 128))) - (wrap64 (40 * (ji10)))))] from rfl) (Reps.none _ _)))); intro v208 w14 ho15 hb hg_ hnew_; clear hg_ hnew_; (first | rw [← Ny207.out] at ho15 | (simp only [Int.reduceToNat] at ho15; rw [← Ny207.out] at ho15)); have n0_ := Aside0.mk (Kd.R_elder' (by (with_reducible repeat (first | apply Kd.R_alloc | apply Kd.R_drewN | apply Kd.R_drew)); exact HO_4.out) (Kd.R_base ho15) hb); have n1_ := Aside0.mk (Kd.R_lower (Kd.R_new' ho15 (Kd.R_lt (by (with_reducible repeat (first | apply Kd.R_alloc | apply Kd.R_drewN | apply Kd.R_drew)); exact HO_4.out))) (below_size (by repeat (first | (with_reducible first | exact HB.out | apply below_alloc | apply pw_below_drewN | apply below_drew1) | exact HB.out)))); have n2_ := Aside0.mk (below_step (by repeat (first | (with_reducible first | exact HB.out | apply below_alloc | apply pw_below_drewN | apply below_drew1) | exact HB.out)) hb); clear HO_4; clear HB; have HO_4 := n0_; have HO209 := n1_; have HB := n2_; clear n0_ n1_ n2_; clear hb ho15; obtain ⟨Ao17, co17, eo17⟩ := Kd.R_slice HO209.out; subst eo17) | ((with_reducible refine gate_builtin (b := .append) (xs := #[.tmp 62, .tmp 68]) rfl ?_); at_builtin; refine Kd.R_append_rows (Kd.int .i64) (w0 := w) w.heap.size rfl (.tmp 62) (.tmp 68) 25 3 (.int .i64 0) 8 rfl Tryd.underlying25 info3 rfl (by decide) (by omega) (.slice Ao13 x4_1.length co13) x4_1 y207 _ _ _ (fun k_ => some k_ ≠ (.slice Ao17 y207.length co17 : Value).ownBlock) (fun _ => False) rfl rfl ?aO ?aR (fun _ _ h => h) (fun _ h => h.elim) ?aF ?aB ?aS ?aL ?_; (case aR => repeat (first | exact (Kd.R_reads' HO209.out).2.2 | (with_reducible refine Kd.C_alloc ?_ _) | (with_reducible refine Kd.C_drewN ?_ _) | (with_reducible refine Kd.C_drew ?_))); (case aB => exact (by repeat (first | (with_reducible first | exact HB.out | apply below_alloc | apply pw_below_drewN | apply below_drew1) | exact HB.out))); (case aF => exact (fun k_ hk => Kd.fresh' (Kd.R_lt (by (with_reducible repeat (first | apply Kd.R_alloc | apply Kd.R_drewN | apply Kd.R_drew)); exact HO209.out)) k_ hk)); (case aO => exact (by (with_reducible repeat (first | apply Kd.R_alloc | apply Kd.R_drewN | apply Kd.R_drew)); exact Kd.R_mono HO_4.out (fun _ hk => by first | exact hk.2 | trivial | exact hk))); (case aS => exact (below_size (by repeat (first | (with_reducible first | exact HB.out | apply below_alloc | apply pw_below_drewN | apply below_drew1) | exact HB.out)))); (case aL => have := LMc11.out; omega); intro v211 w16 ho hb hg hat; rw [← Ny210.out] at ho; have n0_ := Aside0.mk (Kd.R_after (ok := (fun _ => True)) (by (with_reducible repeat (first | apply Kd.R_alloc | apply Kd.R_drewN | apply Kd.R_drew)); exact HO209.out) hg hat); have n1_ := Aside0.mk (hb); have n2_ := Aside0.mk (ho); clear HO209; clear HB; clear HO_4; have HO209 := n0_; have HB := n1_; have HO212 := n2_; clear n0_ n1_ n2_; clear ho hb hg hat; obtain ⟨Ao18, co18, eo18⟩ := Kd.R_slice HO212.out; subst eo18))
                          go_ret2
                          exact ⟨_, by first | rfl | (simp [errW_none, errW_some] <;> rfl) | (simp only [← hji10]; first | rfl | (simp [errW_none, errW_some] <;> rfl)) | (simp [*, errW_none, errW_some] <;> rfl), by first | exact Kd.R_nil _ _ _ _ _ | exact Kd.N_nil _ _ _ _ _ | exact Kd.V_nil _ _ _ _ _ | exact Kd.Q_nil _ _ _ _ _ | exact Kd.S_nil _ _ _ _ _, by repeat (first | (with_reducible first | exact HB.out | apply below_alloc | apply pw_below_drewN | apply below_drew1) | exact HB.out)⟩
                        · rw [if_neg c12] at H
                          have c12b0 : decide (40 < (y210.length : Int)) = false := decide_eq_false c12
                          have c12b1 : decide (40 < y210.length) = false := decide_eq_false (by omega)
                          clear c12
                          have H' := Aside0.mk H
                          clear H
                          have p204 : 0 ≤ (x7_1 : Int) := of_decide_eq_true (by first | (with_reducible assumption) | assumption)
                          have q204 : x7_1 < (l0.length : Int) := of_decide_eq_true (by first | (with_reducible assumption) | assumption)
                          obtain ⟨ad204, e204, hx204_0⟩ := Kd.at_int HR0.out x7_1 p204 q204
                          cases e204
                          replace hx204_0 := (HB.out.cell (World.block_lt_of_cell? w _ hx204_0)).trans hx204_0
                          replace p204 := eq_true p204
                          replace q204 := eq_true q204
                          have p205 : 0 ≤ (x7_1 : Int) := of_decide_eq_true (by first | (with_reducible assumption) | assumption)
                          have q205 : x7_1 < (l0.length : Int) := of_decide_eq_true (by first | (with_reducible assumption) | assumption)
                          obtain ⟨ad205, e205, hx205_0⟩ := Kd.at_int HR0.out x7_1 p205 q205
                          obtain rfl : ad204 = ad205 := (by injection e205)
                          replace hx205_0 := (HB.out.cell (World.block_lt_of_cell? w _ hx205_0)).trans hx205_0
                          replace p205 := eq_true p205
                          replace q205 := eq_true q205
                          have p206 : 0 ≤ (x7_1 : Int) := of_decide_eq_true (by first | (with_reducible assumption) | assumption)
                          have q206 : x7_1 < (l0.length : Int) := of_decide_eq_true (by first | (with_reducible assumption) | assumption)
                          obtain ⟨ad206, e206, hx206_0⟩ := Kd.at_int HR0.out x7_1 p206 q206
                          obtain rfl : ad204 = ad206 := (by injection e206)
                          replace hx206_0 := (HB.out.cell (World.block_lt_of_cell? w _ hx206_0)).trans hx206_0
                          replace p206 := eq_true p206
                          replace q206 := eq_true q206
                          obtain ⟨Ao19, co19, eo19⟩ := Kd.R_slice HO_4.out
                          subst eo19
                          go_wp2_with (first | ((with_reducible refine gate_dst (N := 68) rfl ?_); refine Kd.R_lit (Kd.int .i64) _ 3 ?hg (N := 68) ?hd (xs := ([ji10, wrap64 ((wrap64 ((wrap64 (x5_1 * 128)) + (Int.tmod (wrap64 (rd l0 x7_1)) 128))) - (wrap64 (40 * (ji10))))] : List Int)) (inner := [.int .i64 ji10, .int .i64 (wrap64 ((wrap64 ((wrap64 (x5_1 * 128)) + (Int.tmod (wrap64 (rd l0 x7_1)) 128))) - (wrap64 (40 * (ji10)))))]) (ok := fun _ => True) (okp := fun _ => True) ?hr ?hp (fun _ hk => hk) trivial (Below.refl _ _) (Nat.le_refl _) (by simp) ?_; (case hd => rfl); (case hg => rfl); (case hr => first | (go_simp; done) | (go_simp; rfl)); (case hp => exact (Reps.one (show Kd.M (Kd.int .i64) _ _ _ ji10 [.int .i64 ji10] from rfl) (Reps.one (show Kd.M (Kd.int .i64) _ _ _ (wrap64 ((wrap64 ((wrap64 (x5_1 * 128)) + (Int.tmod (wrap64 (rd l0 x7_1)) 128))) - (wrap64 (40 * (ji10))))) [.int .i64 (wrap64 ((wrap64 ((wrap64 (x5_1 * 128)) + (Int.tmod (wrap64 (rd l0 x7_1)) 128))) - (wrap64 (40 * (ji10)))))] from rfl) (Reps.none _ _)))); intro v208 w20 ho21 hb hg_ hnew_; clear hg_ hnew_; (first | rw [← Ny207.out] at ho21 | (simp only [Int.reduceToNat] at ho21; rw [← Ny207.out] at ho21)); have n0_ := Aside0.mk (Kd.R_elder' (by (with_reducible repeat (first | apply Kd.R_alloc | apply Kd.R_drewN | apply Kd.R_drew)); exact HO_4.out) (Kd.R_base ho21) hb); have n1_ := Aside0.mk (Kd.R_lower (Kd.R_new' ho21 (Kd.R_lt (by (with_reducible repeat (first | apply Kd.R_alloc | apply Kd.R_drewN | apply Kd.R_drew)); exact HO_4.out))) (below_size (by repeat (first | (with_reducible first | exact HB.out | apply below_alloc | apply pw_below_drewN | apply below_drew1) | exact HB.out)))); have n2_ := Aside0.mk (below_step (by repeat (first | (with_reducible first | exact HB.out | apply below_alloc | apply pw_below_drewN | apply below_drew1) | exact HB.out)) hb); clear HO_4; clear HB; have HO_4 := n0_; have HO209 := n1_; have HB := n2_; clear n0_ n1_ n2_; clear hb ho21; obtain ⟨Ao23, co23, eo23⟩ := Kd.R_slice HO209.out; subst eo23) | ((with_reducible refine gate_builtin (b := .append) (xs := #[.tmp 62, .tmp 68]) rfl ?_); at_builtin; refine Kd.R_append_rows (Kd.int .i64) (w0 := w) w.heap.size rfl (.tmp 62) (.tmp 68) 25 3 (.int .i64 0) 8 rfl Tryd.underlying25 info3 rfl (by decide) (by omega) (.slice Ao19 x4_1.length co19) x4_1 y207 _ _ _ (fun k_ => some k_ ≠ (.slice Ao23 y207.length co23 : Value).ownBlock) (fun _ => False) rfl rfl ?aO ?aR (fun _ _ h => h) (fun _ h => h.elim) ?aF ?aB ?aS ?aL ?_; (case aR => repeat (first | exact (Kd.R_reads' HO209.out).2.2 | (with_reducible refine Kd.C_alloc ?_ _) | (with_reducible refine Kd.C_drewN ?_ _) | (with_reducible refine Kd.C_drew ?_))); (case aB => exact (by repeat (first | (with_reducible first | exact HB.out | apply below_alloc | apply pw_below_drewN | apply below_drew1) | exact HB.out))); (case aF => exact (fun k_ hk => Kd.fresh' (Kd.R_lt (by (with_reducible repeat (first | apply Kd.R_alloc | apply Kd.R_drewN | apply Kd.R_drew)); exact HO209.out)) k_ hk)); (case aO => exact (by (with_reducible repeat (first | apply Kd.R_alloc | apply Kd.R_drewN | apply Kd.R_drew)); exact Kd.R_mono HO_4.out (fun _ hk => by first | exact hk.2 | trivial | exact hk))); (case aS => exact (below_size (by repeat (first | (with_reducible first | exact HB.out | apply below_alloc | apply pw_below_drewN | apply below_drew1) | exact HB.out)))); (case aL => have := LMc11.out; omega); intro v211 w22 ho hb hg hat; rw [← Ny210.out] at ho; have n0_ := Aside0.mk (Kd.R_after (ok := (fun _ => True)) (by (with_reducible repeat (first | apply Kd.R_alloc | apply Kd.R_drewN | apply Kd.R_drew)); exact HO209.out) hg hat); have n1_ := Aside0.mk (hb); have n2_ := Aside0.mk (ho); clear HO209; clear HB; clear HO_4; have HO209 := n0_; have HB := n1_; have HO212 := n2_; clear n0_ n1_ n2_; clear ho hb hg hat; obtain ⟨Ao24, co24, eo24⟩ := Kd.R_slice HO212.out; subst eo24))
                          go_roundg k1
                          case measure => have := HK1.out; omega
                          case rel => exact ⟨(y210), (0), (decide ((rd l0 x7_1) ≥ 128)), (wrap64 (x7_1 + 1)), (by first | rfl | (simp; done) | (simp [*]; done)), (by first | rfl | (simp; done) | (simp [*]; done)), (by first | rfl | (simp; done) | (simp [*]; done)), H', ⟨by have := HK1.out; omega⟩, ⟨by (with_reducible repeat (first | apply Kd.R_alloc | apply Kd.R_drewN | apply Kd.R_drew)); exact Kd.R_mono HO212.out (fun _ hk => trivial)⟩, ⟨by repeat (first | (with_reducible first | exact HB.out | apply below_alloc | apply pw_below_drewN | apply below_drew1) | exact HB.out)⟩⟩
                      · rw [if_neg c11] at H
                        exact absurd H (by simp)
                    · rw [if_neg c9] at H
                      have c9b0 : ((x4_1.length : Int) == 0) = false := beq_eq_false_iff_ne.mpr c9
                      have c9b1 : ((x4_1.length : Int) != 0) = true := bne_iff_ne.mpr c9
                      have c9b2 : ¬ (x4_1 = []) := fun h_ => c9 (by rw [h_]; rfl)
                      by_cases c25 : x4_1.length < 17592186044416
                      · rw [if_pos c25] at H
                        have LMc25 := Aside0.mk c25
                        clear c25
                        obtain ⟨y213, hy213⟩ : ∃ y_ : List Int, y_ = (x4_1 ++ [wrap64 ((wrap64 (x5_1 * 128)) + (Int.tmod (wrap64 (rd l0 x7_1)) 128))]) := ⟨_, rfl⟩
                        replace H : (if (y213.length : Int) > 40 then (some (([] : List Int), false)) else (sobriquetref01_ReadOid.l0 k1 l0 y213 0 (decide ((rd l0 x7_1) ≥ 128)) (wrap64 (x7_1 + 1)))) = some (r1, r2) := by first | (rw [hy213]; with_reducible exact H) | (have H2_ := (Option.bind_some _ _).symm.trans H; rw [hy213]; with_reducible exact H2_) | (have H2_ := (Option.bind_some _ _).symm.trans H; with_reducible exact H2_) | with_reducible exact H | (rw [hy213]; exact H) | exact H
                        have Ny213 := Aside0.mk hy213
                        clear hy213
                        by_cases c26 : (y213.length : Int) > 40
                        · rw [if_pos c26] at H
                          have c26b0 : decide (40 < (y213.length : Int)) = true := decide_eq_true c26
                          have c26b1 : decide (40 < y213.length) = true := decide_eq_true (by omega)
                          clear c26
                          simp only [Option.some.injEq, Prod.mk.injEq] at H
                          obtain ⟨rfl, rfl⟩ := H
                          have p204 : 0 ≤ (x7_1 : Int) := of_decide_eq_true (by first | (with_reducible assumption) | assumption)
                          have q204 : x7_1 < (l0.length : Int) := of_decide_eq_true (by first | (with_reducible assumption) | assumption)
                          obtain ⟨ad204, e204, hx204_0⟩ := Kd.at_int HR0.out x7_1 p204 q204
                          cases e204
                          replace hx204_0 := (HB.out.cell (World.block_lt_of_cell? w _ hx204_0)).trans hx204_0
                          replace p204 := eq_true p204
                          replace q204 := eq_true q204
                          have p205 : 0 ≤ (x7_1 : Int) := of_decide_eq_true (by first | (with_reducible assumption) | assumption)
                          have q205 : x7_1 < (l0.length : Int) := of_decide_eq_true (by first | (with_reducible assumption) | assumption)
                          obtain ⟨ad205, e205, hx205_0⟩ := Kd.at_int HR0.out x7_1 p205 q205
                          obtain rfl : ad204 = ad205 := (by injection e205)
                          replace hx205_0 := (HB.out.cell (World.block_lt_of_cell? w _ hx205_0)).trans hx205_0
                          replace p205 := eq_true p205
                          replace q205 := eq_true q205
                          have p206 : 0 ≤ (x7_1 : Int) := of_decide_eq_true (by first | (with_reducible assumption) | assumption)
                          have q206 : x7_1 < (l0.length : Int) := of_decide_eq_true (by first | (with_reducible assumption) | assumption)
                          obtain ⟨ad206, e206, hx206_0⟩ := Kd.at_int HR0.out x7_1 p206 q206
                          obtain rfl : ad204 = ad206 := (by injection e206)
                          replace hx206_0 := (HB.out.cell (World.block_lt_of_cell? w _ hx206_0)).trans hx206_0
                          replace p206 := eq_true p206
                          replace q206 := eq_true q206
                          obtain ⟨Ao27, co27, eo27⟩ := Kd.R_slice HO_4.out
                          subst eo27
                          go_wp2_with (first | ((with_reducible refine gate_builtin (b := .append) (xs := #[.tmp 70, .tmp 72]) rfl ?_); at_builtin; refine Kd.R_append (Kd.int .i64) (w0 := w) w.heap.size rfl (.tmp 70) (.tmp 72) 25 3 (.int .i64 0) 8 rfl Tryd.underlying25 info3 rfl (by decide) (by omega) (.slice Ao27 x4_1.length co27) x4_1 (wrap64 ((wrap64 (x5_1 * 128)) + (Int.tmod (wrap64 (rd l0 x7_1)) 128))) [.int .i64 (wrap64 ((wrap64 (x5_1 * 128)) + (Int.tmod (wrap64 (rd l0 x7_1)) 128)))] (fun _ => True) (fun _ => False) rfl rfl ?aP (fun _ hk => hk.elim) ?aF ?aO ?aB ?aS ?aL ?_; (case aP => exact rfl); (case aB => exact (by repeat (first | (with_reducible first | exact HB.out | apply below_alloc | apply pw_below_drewN | apply below_drew1) | exact HB.out))); (case aF => exact (fun _ _ => trivial)); (case aO => exact (by (with_reducible repeat (first | apply Kd.R_alloc | apply Kd.R_drewN | apply Kd.R_drew)); exact HO_4.out)); (case aS => exact (below_size (by repeat (first | (with_reducible first | exact HB.out | apply below_alloc | apply pw_below_drewN | apply below_drew1) | exact HB.out)))); (case aL => have := LMc25.out; omega); intro v214 w28 ho hb hg hat; rw [← Ny213.out] at ho; have n0_ := Aside0.mk (hb); have n1_ := Aside0.mk (ho); clear HB; clear HO_4; have HB := n0_; have HO215 := n1_; clear n0_ n1_; clear ho hb hg hat; obtain ⟨Ao29, co29, eo29⟩ := Kd.R_slice HO215.out; subst eo29))
                          go_ret2
                          exact ⟨_, by first | rfl | (simp [errW_none, errW_some] <;> rfl) | (simp [*, errW_none, errW_some] <;> rfl), by first | exact Kd.R_nil _ _ _ _ _ | exact Kd.N_nil _ _ _ _ _ | exact Kd.V_nil _ _ _ _ _ | exact Kd.Q_nil _ _ _ _ _ | exact Kd.S_nil _ _ _ _ _, by repeat (first | (with_reducible first | exact HB.out | apply below_alloc | apply pw_below_drewN | apply below_drew1) | exact HB.out)⟩
                        · rw [if_neg c26] at H
                          have c26b0 : decide (40 < (y213.length : Int)) = false := decide_eq_false c26
                          have c26b1 : decide (40 < y213.length) = false := decide_eq_false (by omega)
                          clear c26
                          have H' := Aside0.mk H
                          clear H
                          have p204 : 0 ≤ (x7_1 : Int) := of_decide_eq_true (by first | (with_reducible assumption) | assumption)
                          have q204 : x7_1 < (l0.length : Int) := of_decide_eq_true (by first | (with_reducible assumption) | assumption)
                          obtain ⟨ad204, e204, hx204_0⟩ := Kd.at_int HR0.out x7_1 p204 q204
                          cases e204
                          replace hx204_0 := (HB.out.cell (World.block_lt_of_cell? w _ hx204_0)).trans hx204_0
                          replace p204 := eq_true p204
                          replace q204 := eq_true q204
                          have p205 : 0 ≤ (x7_1 : Int) := of_decide_eq_true (by first | (with_reducible assumption) | assumption)
                          have q205 : x7_1 < (l0.length : Int) := of_decide_eq_true (by first | (with_reducible assumption) | assumption)
                          obtain ⟨ad205, e205, hx205_0⟩ := Kd.at_int HR0.out x7_1 p205 q205
                          obtain rfl : ad204 = ad205 := (by injection e205)
                          replace hx205_0 := (HB.out.cell (World.block_lt_of_cell? w _ hx205_0)).trans hx205_0
                          replace p205 := eq_true p205
                          replace q205 := eq_true q205
                          have p206 : 0 ≤ (x7_1 : Int) := of_decide_eq_true (by first | (with_reducible assumption) | assumption)
                          have q206 : x7_1 < (l0.length : Int) := of_decide_eq_true (by first | (with_reducible assumption) | assumption)
                          obtain ⟨ad206, e206, hx206_0⟩ := Kd.at_int HR0.out x7_1 p206 q206
                          obtain rfl : ad204 = ad206 := (by injection e206)
                          replace hx206_0 := (HB.out.cell (World.block_lt_of_cell? w _ hx206_0)).trans hx206_0
                          replace p206 := eq_true p206
                          replace q206 := eq_true q206
                          obtain ⟨Ao30, co30, eo30⟩ := Kd.R_slice HO_4.out
                          subst eo30
                          go_wp2_with (first | ((with_reducible refine gate_builtin (b := .append) (xs := #[.tmp 70, .tmp 72]) rfl ?_); at_builtin; refine Kd.R_append (Kd.int .i64) (w0 := w) w.heap.size rfl (.tmp 70) (.tmp 72) 25 3 (.int .i64 0) 8 rfl Tryd.underlying25 info3 rfl (by decide) (by omega) (.slice Ao30 x4_1.length co30) x4_1 (wrap64 ((wrap64 (x5_1 * 128)) + (Int.tmod (wrap64 (rd l0 x7_1)) 128))) [.int .i64 (wrap64 ((wrap64 (x5_1 * 128)) + (Int.tmod (wrap64 (rd l0 x7_1)) 128)))] (fun _ => True) (fun _ => False) rfl rfl ?aP (fun _ hk => hk.elim) ?aF ?aO ?aB ?aS ?aL ?_; (case aP => exact rfl); (case aB => exact (by repeat (first | (with_reducible first | exact HB.out | apply below_alloc | apply pw_below_drewN | apply below_drew1) | exact HB.out))); (case aF => exact (fun _ _ => trivial)); (case aO => exact (by (with_reducible repeat (first | apply Kd.R_alloc | apply Kd.R_drewN | apply Kd.R_drew)); exact HO_4.out)); (case aS => exact (below_size (by repeat (first | (with_reducible first | exact HB.out | apply below_alloc | apply pw_below_drewN | apply below_drew1) | exact HB.out)))); (case aL => have := LMc25.out; omega); intro v214 w31 ho hb hg hat; rw [← Ny213.out] at ho; have n0_ := Aside0.mk (hb); have n1_ := Aside0.mk (ho); clear HB; clear HO_4; have HB := n0_; have HO215 := n1_; clear n0_ n1_; clear ho hb hg hat; obtain ⟨Ao32, co32, eo32⟩ := Kd.R_slice HO215.out; subst eo32))
                          go_roundg k1
                          case measure => have := HK1.out; omega
                          case rel => exact ⟨(y213), (0), (decide ((rd l0 x7_1) ≥ 128)), (wrap64 (x7_1 + 1)), (by first | rfl | (simp; done) | (simp [*]; done)), (by first | rfl | (simp; done) | (simp [*]; done)), (by first | rfl | (simp; done) | (simp [*]; done)), H', ⟨by have := HK1.out; omega⟩, ⟨by (with_reducible repeat (first | apply Kd.R_alloc | apply Kd.R_drewN | apply Kd.R_drew)); exact HO215.out⟩, ⟨by repeat (first | (with_reducible first | exact HB.out | apply below_alloc | apply pw_below_drewN | apply below_drew1) | exact HB.out)⟩⟩
                      · rw [if_neg c25] at H
                        exact absurd H (by simp)
              · rw [if_neg c6] at H
                exact absurd H (by simp)
            · rw [if_neg c5] at H
              have c5b0 : (x5_1 == 72057594037927935) = false := beq_eq_false_iff_ne.mpr c5
              have c5b1 : (x5_1 != 72057594037927935) = true := bne_iff_ne.mpr c5
              by_cases c33 : 0 ≤ x7_1
              · rw [if_pos c33] at H
                have c33b0 : decide (0 ≤ x7_1) = true := decide_eq_true c33
                clear c33
                by_cases c34 : (rd l0 x7_1) ≥ 128
                · rw [if_pos c34] at H
                  have c34b0 : decide (128 ≤ (rd l0 x7_1)) = true := decide_eq_true c34
                  clear c34
                  have H' := Aside0.mk H
                  clear H
                  have p216 : 0 ≤ (x7_1 : Int) := of_decide_eq_true (by first | (with_reducible assumption) | assumption)
                  have q216 : x7_1 < (l0.length : Int) := of_decide_eq_true (by first | (with_reducible assumption) | assumption)
                  obtain ⟨ad216, e216, hx216_0⟩ := Kd.at_int HR0.out x7_1 p216 q216
                  cases e216
                  replace hx216_0 := (HB.out.cell (World.block_lt_of_cell? w _ hx216_0)).trans hx216_0
                  replace p216 := eq_true p216
                  replace q216 := eq_true q216
                  have p217 : 0 ≤ (x7_1 : Int) := of_decide_eq_true (by first | (with_reducible assumption) | assumption)
                  have q217 : x7_1 < (l0.length : Int) := of_decide_eq_true (by first | (with_reducible assumption) | assumption)
                  obtain ⟨ad217, e217, hx217_0⟩ := Kd.at_int HR0.out x7_1 p217 q217
                  obtain rfl : ad216 = ad217 := (by injection e217)
                  replace hx217_0 := (HB.out.cell (World.block_lt_of_cell? w _ hx217_0)).trans hx217_0
                  replace p217 := eq_true p217
                  replace q217 := eq_true q217
                  go_wp2
                  go_roundg k1
                  case measure => have := HK1.out; omega
                  case rel => exact ⟨(x4_1), (wrap64 ((wrap64 (x5_1 * 128)) + (Int.tmod (wrap64 (rd l0 x7_1)) 128))), (decide ((rd l0 x7_1) ≥ 128)), (wrap64 (x7_1 + 1)), (by first | rfl | (simp; done) | (simp [*]; done)), (by first | rfl | (simp; done) | (simp [*]; done)), (by first | rfl | (simp; done) | (simp [*]; done)), H', ⟨by have := HK1.out; omega⟩, ⟨by (with_reducible repeat (first | apply Kd.R_alloc | apply Kd.R_drewN | apply Kd.R_drew)); exact HO_4.out⟩, ⟨by repeat (first | (with_reducible first | exact HB.out | apply below_alloc | apply pw_below_drewN | apply below_drew1) | exact HB.out)⟩⟩
                · rw [if_neg c34] at H
                  have c34b0 : decide (128 ≤ (rd l0 x7_1)) = false := decide_eq_false c34
                  clear c34
                  by_cases c35 : (x4_1.length : Int) = 0
                  · rw [if_pos c35] at H
                    have c35b0 : ((x4_1.length : Int) == 0) = true := beq_iff_eq.mpr c35
                    have c35b1 : ((x4_1.length : Int) != 0) = false := bne_eq_false_iff_eq.mpr c35
                    clear c35
                    obtain ⟨ji36, hji36⟩ : ∃ j_ : Int, (mn (wrap64 (Int.tdiv (wrap64 ((wrap64 (x5_1 * 128)) + (Int.tmod (wrap64 (rd l0 x7_1)) 128))) 40)) 2) = j_ := ⟨_, rfl⟩
                    replace H : ((some (([ji36, wrap64 ((wrap64 ((wrap64 (x5_1 * 128)) + (Int.tmod (wrap64 (rd l0 x7_1)) 128))) - (wrap64 (40 * (ji36))))] : List Int) : List Int)).bind fun y218 => (if x4_1.length + y218.length < 17592186044416 then ((some (x4_1 ++ y218 : List Int)).bind fun y221 => (if (y221.length : Int) > 40 then (some (([] : List Int), false)) else (sobriquetref01_ReadOid.l0 k1 l0 y221 0 (decide ((rd l0 x7_1) ≥ 128)) (wrap64 (x7_1 + 1))))) else (none))) = some (r1, r2) := by first | (rw [hji36] at H; exact H) | (simp only [hji36] at H ⊢; exact H)
                    have hji36_ : (if 2 < (wrap64 (Int.tdiv (wrap64 ((wrap64 (x5_1 * 128)) + (Int.tmod (wrap64 (rd l0 x7_1)) 128))) 40)) then 2 else (wrap64 (Int.tdiv (wrap64 ((wrap64 (x5_1 * 128)) + (Int.tmod (wrap64 (rd l0 x7_1)) 128))) 40))) = ji36 := hji36
                    obtain ⟨y218, hy218⟩ : ∃ y_ : List Int, y_ = (([ji36, wrap64 ((wrap64 ((wrap64 (x5_1 * 128)) + (Int.tmod (wrap64 (rd l0 x7_1)) 128))) - (wrap64 (40 * (ji36))))] : List Int)) := ⟨_, rfl⟩
                    replace H : (if x4_1.length + y218.length < 17592186044416 then ((some (x4_1 ++ y218 : List Int)).bind fun y221 => (if (y221.length : Int) > 40 then (some (([] : List Int), false)) else (sobriquetref01_ReadOid.l0 k1 l0 y221 0 (decide ((rd l0 x7_1) ≥ 128)) (wrap64 (x7_1 + 1))))) else (none)) = some (r1, r2) := by first | (rw [hy218]; with_reducible exact H) | (have H2_ := (Option.bind_some _ _).symm.trans H; rw [hy218]; with_reducible exact H2_) | (have H2_ := (Option.bind_some _ _).symm.trans H; with_reducible exact H2_) | with_reducible exact H | (rw [hy218]; exact H) | exact H
                    have Ny218 := Aside0.mk hy218
                    clear hy218
                    by_cases c37 : x4_1.length + y218.length < 17592186044416
                    · rw [if_pos c37] at H
                      have LMc37 := Aside0.mk c37
                      clear c37
                      obtain ⟨y221, hy221⟩ : ∃ y_ : List Int, y_ = (x4_1 ++ y218) := ⟨_, rfl⟩
                      replace H : (if (y221.length : Int) > 40 then (some (([] : List Int), false)) else (sobriquetref01_ReadOid.l0 k1 l0 y221 0 (decide ((rd l0 x7_1) ≥ 128)) (wrap64 (x7_1 + 1)))) = some (r1, r2) := by first | (rw [hy221]; with_reducible exact H) | (have H2_ := (Option.bind_some _ _).symm.trans H; rw [hy221]; with_reducible exact H2_) | (have H2_ := (Option.bind_some _ _).symm.trans H; with_reducible exact H2_) | with_reducible exact H | (rw [hy221]; exact H) | exact H
                      have Ny221 := Aside0.mk hy221
                      clear hy221
                      by_cases c38 : (y221.length : Int) > 40
                      · rw [if_pos c38] at H
                        have c38b0 : decide (40 < (y221.length : Int)) = true := decide_eq_true c38
                        have c38b1 : decide (40 < y221.length) = true := decide_eq_true (by omega)
                        clear c38
                        simp only [Option.some.injEq, Prod.mk.injEq] at H
                        obtain ⟨rfl, rfl⟩ := H
                        have p216 : 0 ≤ (x7_1 : Int) := of_decide_eq_true (by first | (with_reducible assumption) | assumption)
                        have q216 : x7_1 < (l0.length : Int) := of_decide_eq_true (by first | (with_reducible assumption) | assumption)
                        obtain ⟨ad216, e216, hx216_0⟩ := Kd.at_int HR0.out x7_1 p216 q216
                        cases e216
                        replace hx216_0 := (HB.out.cell (World.block_lt_of_cell? w _ hx216_0)).trans hx216_0
                        replace p216 := eq_true p216
                        replace q216 := eq_true q216
                        have p217 : 0 ≤ (x7_1 : Int) := of_decide_eq_true (by first | (with_reducible assumption) | assumption)
                        have q217 : x7_1 < (l0.length : Int) := of_decide_eq_true (by first | (with_reducible assumption) | assumption)
                        obtain ⟨ad217, e217, hx217_0⟩ := Kd.at_int HR0.out x7_1 p217 q217
                        obtain rfl : ad216 = ad217 := (by injection e217)
                        replace hx217_0 := (HB.out.cell (World.block_lt_of_cell? w _ hx217_0)).trans hx217_0
                        replace p217 := eq_true p217
                        replace q217 := eq_true q217
                        obtain ⟨Ao39, co39, eo39⟩ := Kd.R_slice HO_4.out
                        subst eo39
                        go_wp2_with (first | ((with_reducible refine gate_dst (N := 68) rfl ?_); refine Kd.R_lit (Kd.int .i64) _ 3 ?hg (N := 68) ?hd (xs := ([ji36, wrap64 ((wrap64 ((wrap64 (x5_1 * 128)) + (Int.tmod (wrap64 (rd l0 x7_1)) 128))) - (wrap64 (40 * (ji36))))] : List Int)) (inner := [.int .i64 ji36, .int .i64 (wrap64 ((wrap64 ((wrap64 (x5_1 * 128)) + (Int.tmod (wrap64 (rd l0 x7_1)) 128))) - (wrap64 (40 * (ji36)))))]) (ok := fun _ => True) (okp := fun _ => True) ?hr ?hp (fun _ hk => hk) trivial (Below.refl _ _) (Nat.le_refl _) (by simp) ?_; (case hd => rfl); (case hg => rfl); (case hr => first | (go_simp; done) | (go_simp; rfl)); (case hp => exact (Reps.one (show Kd.M (Kd.int .i64) _ _ _ ji36 [.int .i64 ji36] from rfl) (Reps.one (show Kd.M (Kd.int .i64) _ _ _ (wrap64 ((wrap64 ((wrap64 (x5_1 * 128)) + (Int.tmod (wrap64 (rd l0 x7_1)) 128))) - (wrap64 (40 * (ji36))))) [.int .i64 (wrap64 ((wrap64 ((wrap64 (x5_1 * 128)) + (Int.tmod (wrap64 (rd l0 x7_1)) 128))) - (wrap64 (40 * (ji36)))))] from rfl) (Reps.none _ _)))); intro v219 w40 ho41 hb hg_ hnew_; clear hg_ hnew_; (first | rw [← Ny218.out] at ho41 | (simp only [Int.reduceToNat] at ho41; rw [← Ny218.out] at ho41)); have n0_ := Aside0.mk (Kd.R_elder' (by (with_reducible repeat (first | apply Kd.R_alloc | apply Kd.R_drewN | apply Kd.R_drew)); exact HO_4.out) (Kd.R_base ho41) hb); have n1_ := Aside0.mk (Kd.R_lower (Kd.R_new' ho41 (Kd.R_lt (by (with_reducible repeat (first | apply Kd.R_alloc | apply Kd.R_drewN | apply Kd.R_drew)); exact HO_4.out))) (below_size (by repeat (first | (with_reducible first | exact HB.out | apply below_alloc | apply pw_below_drewN | apply below_drew1) | exact HB.out)))); have n2_ := Aside0.mk (below_step (by repeat (first | (with_reducible first | exact HB.out | apply below_alloc | apply pw_below_drewN | apply below_drew1) | exact HB.out)) hb); clear HO_4; clear HB; have HO_4 := n0_; have HO220 := n1_; have HB := n2_; clear n0_ n1_ n2_; clear hb ho41; obtain ⟨Ao43, co43, eo43⟩ := Kd.R_slice HO220.out; subst eo43) | ((with_reducible refine gate_builtin (b := .append) (xs := #[.tmp 62, .tmp 68]) rfl ?_); at_builtin; refine Kd.R_append_rows (Kd.int .i64) (w0 := w) w.heap.size rfl (.tmp 62) (.tmp 68) 25 3 (.int .i64 0) 8 rfl Tryd.underlying25 info3 rfl (by decide) (by omega) (.slice Ao39 x4_1.length co39) x4_1 y218 _ _ _ (fun k_ => some k_ ≠ (.slice Ao43 y218.length co43 : Value).ownBlock) (fun _ => False) rfl rfl ?aO ?aR (fun _ _ h => h) (fun _ h => h.elim) ?aF ?aB ?aS ?aL ?_; (case aR => repeat (first | exact (Kd.R_reads' HO220.out).2.2 | (with_reducible refine Kd.C_alloc ?_ _) | (with_reducible refine Kd.C_drewN ?_ _) | (with_reducible refine Kd.C_drew ?_))); (case aB => exact (by repeat (first | (with_reducible first | exact HB.out | apply below_alloc | apply pw_below_drewN | apply below_drew1) | exact HB.out))); (case aF => exact (fun k_ hk => Kd.fresh' (Kd.R_lt (by (with_reducible repeat (first | apply Kd.R_alloc | apply Kd.R_drewN | apply Kd.R_drew)); exact HO220.out)) k_ hk)); (case aO => exact (by (with_reducible repeat (first | apply Kd.R_alloc | apply Kd.R_drewN | apply Kd.R_drew)); exact Kd.R_mono HO_4.out (fun _ hk => by first | exact hk.2 | trivial | exact hk))); (case aS => exact (below_size (by repeat (first | (with_reducible first | exact HB.out | apply below_alloc | apply pw_below_drewN | apply below_drew1) | exact HB.out)))); (case aL => have := LMc37.out; omega); intro v222 w42 ho hb hg hat; rw [← Ny221.out] at ho; have n0_ := Aside0.mk (Kd.R_after (ok := (fun _ => True)) (by (with_reducible repeat (first | apply Kd.R_alloc | apply Kd.R_drewN | apply Kd.R_drew)); exact HO220.out) hg hat); have n1_ := Aside0.mk (hb); have n2_ := Aside0.mk (ho); clear HO220; clear HB; clear HO_4; have HO220 := n0_; have HB := n1_; have HO223 := n2_; clear n0_ n1_ n2_; clear ho hb hg hat; obtain ⟨Ao44, co44, eo44⟩ := Kd.R_slice HO223.out; subst eo44))
                        go_ret2
                        exact ⟨_, by first | rfl | (simp [errW_none, errW_some] <;> rfl) | (simp only [← hji36]; first | rfl | (simp [errW_none, errW_some] <;> rfl)) | (simp [*, errW_none, errW_some] <;> rfl), by first | exact Kd.R_nil _ _ _ _ _ | exact Kd.N_nil _ _ _ _ _ | exact Kd.V_nil _ _ _ _ _ | exact Kd.Q_nil _ _ _ _ _ | exact Kd.S_nil _ _ _ _ _, by repeat (first | (with_reducible first | exact HB.out | apply below_alloc | apply pw_below_drewN | apply below_drew1) | exact HB.out)⟩
                      · rw [if_neg c38] at H
                        have c38b0 : decide (40 < (y221.length : Int)) = false := decide_eq_false c38
                        have c38b1 : decide (40 < y221.length) = false := decide_eq_false (by omega)
                        clear c38
                        have H' := Aside0.mk H
                        clear H
                        have p216 : 0 ≤ (x7_1 : Int) := of_decide_eq_true (by first | (with_reducible assumption) | assumption)
                        have q216 : x7_1 < (l0.length : Int) := of_decide_eq_true (by first | (with_reducible assumption) | assumption)
                        obtain ⟨ad216, e216, hx216_0⟩ := Kd.at_int HR0.out x7_1 p216 q216
                        cases e216
                        replace hx216_0 := (HB.out.cell (World.block_lt_of_cell? w _ hx216_0)).trans hx216_0
                        replace p216 := eq_true p216
                        replace q216 := eq_true q216
                        have p217 : 0 ≤ (x7_1 : Int) := of_decide_eq_true (by first | (with_reducible assumption) | assumption)
                        have q217 : x7_1 < (l0.length : Int) := of_decide_eq_true (by first | (with_reducible assumption) | assumption)
                        obtain ⟨ad217, e217, hx217_0⟩ := Kd.at_int HR0.out x7_1 p217 q217
                        obtain rfl : ad216 = ad217 := (by injection e217)
                        replace hx217_0 := (HB.out.cell (World.block_lt_of_cell? w _ hx217_0)).trans hx217_0
                        replace p217 := eq_true p217
                        replace q217 := eq_true q217
                        obtain ⟨Ao45, co45, eo45⟩ := Kd.R_slice HO_4.out
                        subst eo45
                        go_wp2_with (first | ((with_reducible refine gate_dst (N := 68) rfl ?_); refine Kd.R_lit (Kd.int .i64) _ 3 ?hg (N := 68) ?hd (xs := ([ji36, wrap64 ((wrap64 ((wrap64 (x5_1 * 128)) + (Int.tmod (wrap64 (rd l0 x7_1)) 128))) - (wrap64 (40 * (ji36))))] : List Int)) (inner := [.int .i64 ji36, .int .i64 (wrap64 ((wrap64 ((wrap64 (x5_1 * 128)) + (Int.tmod (wrap64 (rd l0 x7_1)) 128))) - (wrap64 (40 * (ji36)))))]) (ok := fun _ => True) (okp := fun _ => True) ?hr ?hp (fun _ hk => hk) trivial (Below.refl _ _) (Nat.le_refl _) (by simp) ?_; (case hd => rfl); (case hg => rfl); (case hr => first | (go_simp; done) | (go_simp; rfl)); (case hp => exact (Reps.one (show Kd.M (Kd.int .i64) _ _ _ ji36 [.int .i64 ji36] from rfl) (Reps.one (show Kd.M (Kd.int .i64) _ _ _ (wrap64 ((wrap64 ((wrap64 (x5_1 * 128)) + (Int.tmod (wrap64 (rd l0 x7_1)) 128))) - (wrap64 (40 * (ji36))))) [.int .i64 (wrap64 ((wrap64 ((wrap64 (x5_1 * 128)) + (Int.tmod (wrap64 (rd l0 x7_1)) 128))) - (wrap64 (40 * (ji36)))))] from rfl) (Reps.none _ _)))); intro v219 w46 ho47 hb hg_ hnew_; clear hg_ hnew_; (first | rw [← Ny218.out] at ho47 | (simp only [Int.reduceToNat] at ho47; rw [← Ny218.out] at ho47)); have n0_ := Aside0.mk (Kd.R_elder' (by (with_reducible repeat (first | apply Kd.R_alloc | apply Kd.R_drewN | apply Kd.R_drew)); exact HO_4.out) (Kd.R_base ho47) hb); have n1_ := Aside0.mk (Kd.R_lower (Kd.R_new' ho47 (Kd.R_lt (by (with_reducible repeat (first | apply Kd.R_alloc | apply Kd.R_drewN | apply Kd.R_drew)); exact HO_4.out))) (below_size (by repeat (first | (with_reducible first | exact HB.out | apply below_alloc | apply pw_below_drewN | apply below_drew1) | exact HB.out)))); have n2_ := Aside0.mk (below_step (by repeat (first | (with_reducible first | exact HB.out | apply below_alloc | apply pw_below_drewN | apply below_drew1) | exact HB.out)) hb); clear HO_4; clear HB; have HO_4 := n0_; have HO220 := n1_; have HB := n2_; clear n0_ n1_ n2_; clear hb ho47; obtain ⟨Ao49, co49, eo49⟩ := Kd.R_slice HO220.out; subst eo49) | ((with_reducible refine gate_builtin (b := .append) (xs := #[.tmp 62, .tmp 68]) rfl ?_); at_builtin; refine Kd.R_append_rows (Kd.int .i64) (w0 := w) w.heap.size rfl (.tmp 62) (.tmp 68) 25 3 (.int .i64 0) 8 rfl Tryd.underlying25 info3 rfl (by decide) (by omega) (.slice Ao45 x4_1.length co45) x4_1 y218 _ _ _ (fun k_ => some k_ ≠ (.slice Ao49 y218.length co49 : Value).ownBlock) (fun _ => False) rfl rfl ?aO ?aR (fun _ _ h => h) (fun _ h => h.elim) ?aF ?aB ?aS ?aL ?_; (case aR => repeat (first | exact (Kd.R_reads' HO220.out).2.2 | (with_reducible refine Kd.C_alloc ?_ _) | (with_reducible refine Kd.C_drewN ?_ _) | (with_reducible refine Kd.C_drew ?_))); (case aB => exact (by repeat (first | (with_reducible first | exact HB.out | apply below_alloc | apply pw_below_drewN | apply below_drew1) | exact HB.out))); (case aF => exact (fun k_ hk => Kd.fresh' (Kd.R_lt (by (with_reducible repeat (first | apply Kd.R_alloc | apply Kd.R_drewN | apply Kd.R_drew)); exact HO220.out)) k_ hk)); (case aO => exact (by (with_reducible repeat (first | apply Kd.R_alloc | apply Kd.R_drewN | apply Kd.R_drew)); exact Kd.R_mono HO_4.out (fun _ hk => by first | exact hk.2 | trivial | exact hk))); (case aS => exact (below_size (by repeat (first | (with_reducible first | exact HB.out | apply below_alloc | apply pw_below_drewN | apply below_drew1) | exact HB.out)))); (case aL => have := LMc37.out; omega); intro v222 w48 ho hb hg hat; rw [← Ny221.out] at ho; have n0_ := Aside0.mk (Kd.R_after (ok := (fun _ => True)) (by (with_reducible repeat (first | apply Kd.R_alloc | apply Kd.R_drewN | apply Kd.R_drew)); exact HO220.out) hg hat); have n1_ := Aside0.mk (hb); have n2_ := Aside0.mk (ho); clear HO220; clear HB; clear HO_4; have HO220 := n0_; have HB := n1_; have HO223 := n2_; clear n0_ n1_ n2_; clear ho hb hg hat; obtain ⟨Ao50, co50, eo50⟩ := Kd.R_slice HO223.out; subst eo50))
                        go_roundg k1
                        case measure => have := HK1.out; omega
                        case rel => exact ⟨(y221), (0), (decide ((rd l0 x7_1) ≥ 128)), (wrap64 (x7_1 + 1)), (by first | rfl | (simp; done) | (simp [*]; done)), (by first | rfl | (simp; done) | (simp [*]; done)), (by first | rfl | (simp; done) | (simp [*]; done)), H', ⟨by have := HK1.out; omega⟩, ⟨by (with_reducible repeat (first | apply Kd.R_alloc | apply Kd.R_drewN | apply Kd.R_drew)); exact Kd.R_mono HO223.out (fun _ hk => trivial)⟩, ⟨by repeat (first | (with_reducible first | exact HB.out | apply below_alloc | apply pw_below_drewN | apply below_drew1) | exact HB.out)⟩⟩
                    · rw [if_neg c37] at H
                      exact absurd H (by simp)
                  · rw [if_neg c35] at H
                    have c35b0 : ((x4_1.length : Int) == 0) = false := beq_eq_false_iff_ne.mpr c35
                    have c35b1 : ((x4_1.length : Int) != 0) = true := bne_iff_ne.mpr c35
                    have c35b2 : ¬ (x4_1 = []) := fun h_ => c35 (by rw [h_]; rfl)
                    by_cases c51 : x4_1.length < 17592186044416
                    · rw [if_pos c51] at H
                      have LMc51 := Aside0.mk c51
                      clear c51
                      obtain ⟨y224, hy224⟩ : ∃ y_ : List Int, y_ = (x4_1 ++ [wrap64 ((wrap64 (x5_1 * 128)) + (Int.tmod (wrap64 (rd l0 x7_1)) 128))]) := ⟨_, rfl⟩
                      replace H : (if (y224.length : Int) > 40 then (some (([] : List Int), false)) else (sobriquetref01_ReadOid.l0 k1 l0 y224 0 (decide ((rd l0 x7_1) ≥ 128)) (wrap64 (x7_1 + 1)))) = some (r1, r2) := by first | (rw [hy224]; with_reducible exact H) | (have H2_ := (Option.bind_some _ _).symm.trans H; rw [hy224]; with_reducible exact H2_) | (have H2_ := (Option.bind_some _ _).symm.trans H; with_reducible exact H2_) | with_reducible exact H | (rw [hy224]; exact H) | exact H
                      have Ny224 := Aside0.mk hy224
                      clear hy224
                      by_cases c52 : (y224.length : Int) > 40
                      · rw [if_pos c52] at H
                        have c52b0 : decide (40 < (y224.length : Int)) = true := decide_eq_true c52
                        have c52b1 : decide (40 < y224.length) = true := decide_eq_true (by omega)
                        clear c52
                        simp only [Option.some.injEq, Prod.mk.injEq] at H
                        obtain ⟨rfl, rfl⟩ := H
                        have p216 : 0 ≤ (x7_1 : Int) := of_decide_eq_true (by first | (with_reducible assumption) | assumption)
                        have q216 : x7_1 < (l0.length : Int) := of_decide_eq_true (by first | (with_reducible assumption) | assumption)
                        obtain ⟨ad216, e216, hx216_0⟩ := Kd.at_int HR0.out x7_1 p216 q216
                        cases e216
                        replace hx216_0 := (HB.out.cell (World.block_lt_of_cell? w _ hx216_0)).trans hx216_0
                        replace p216 := eq_true p216
                        replace q216 := eq_true q216
                        have p217 : 0 ≤ (x7_1 : Int) := of_decide_eq_true (by first | (with_reducible assumption) | assumption)
                        have q217 : x7_1 < (l0.length : Int) := of_decide_eq_true (by first | (with_reducible assumption) | assumption)
                        obtain ⟨ad217, e217, hx217_0⟩ := Kd.at_int HR0.out x7_1 p217 q217
                        obtain rfl : ad216 = ad217 := (by injection e217)
                        replace hx217_0 := (HB.out.cell (World.block_lt_of_cell? w _ hx217_0)).trans hx217_0
                        replace p217 := eq_true p217
                        replace q217 := eq_true q217
                        obtain ⟨Ao53, co53, eo53⟩ := Kd.R_slice HO_4.out
                        subst eo53
                        go_wp2_with (first | ((with_reducible refine gate_builtin (b := .append) (xs := #[.tmp 70, .tmp 72]) rfl ?_); at_builtin; refine Kd.R_append (Kd.int .i64) (w0 := w) w.heap.size rfl (.tmp 70) (.tmp 72) 25 3 (.int .i64 0) 8 rfl Tryd.underlying25 info3 rfl (by decide) (by omega) (.slice Ao53 x4_1.length co53) x4_1 (wrap64 ((wrap64 (x5_1 * 128)) + (Int.tmod (wrap64 (rd l0 x7_1)) 128))) [.int .i64 (wrap64 ((wrap64 (x5_1 * 128)) + (Int.tmod (wrap64 (rd l0 x7_1)) 128)))] (fun _ => True) (fun _ => False) rfl rfl ?aP (fun _ hk => hk.elim) ?aF ?aO ?aB ?aS ?aL ?_; (case aP => exact rfl); (case aB => exact (by repeat (first | (with_reducible first | exact HB.out | apply below_alloc | apply pw_below_drewN | apply below_drew1) | exact HB.out))); (case aF => exact (fun _ _ => trivial)); (case aO => exact (by (with_reducible repeat (first | apply Kd.R_alloc | apply Kd.R_drewN | apply Kd.R_drew)); exact HO_4.out)); (case aS => exact (below_size (by repeat (first | (with_reducible first | exact HB.out | apply below_alloc | apply pw_below_drewN | apply below_drew1) | exact HB.out)))); (case aL => have := LMc51.out; omega); intro v225 w54 ho hb hg hat; rw [← Ny224.out] at ho; have n0_ := Aside0.mk (hb); have n1_ := Aside0.mk (ho); clear HB; clear HO_4; have HB := n0_; have HO226 := n1_; clear n0_ n1_; clear ho hb hg hat; obtain ⟨Ao55, co55, eo55⟩ := Kd.R_slice HO226.out; subst eo55))
                        go_ret2
                        exact ⟨_, by first | rfl | (simp [errW_none, errW_some] <;> rfl) | (simp [*, errW_none, errW_some] <;> rfl), by first | exact Kd.R_nil _ _ _ _ _ | exact Kd.N_nil _ _ _ _ _ | exact Kd.V_nil _ _ _ _ _ | exact Kd.Q_nil _ _ _ _ _ | exact Kd.S_nil _ _ _ _ _, by repeat (first | (with_reducible first | exact HB.out | apply below_alloc | apply pw_below_drewN | apply below_drew1) | exact HB.out)⟩
                      · rw [if_neg c52] at H
                        have c52b0 : decide (40 < (y224.length : Int)) = false := decide_eq_false c52
                        have c52b1 : decide (40 < y224.length) = false := decide_eq_false (by omega)
                        clear c52
                        have H' := Aside0.mk H
                        clear H
                        have p216 : 0 ≤ (x7_1 : Int) := of_decide_eq_true (by first | (with_reducible assumption) | assumption)
                        have q216 : x7_1 < (l0.length : Int) := of_decide_eq_true (by first | (with_reducible assumption) | assumption)
                        obtain ⟨ad216, e216, hx216_0⟩ := Kd.at_int HR0.out x7_1 p216 q216
                        cases e216
                        replace hx216_0 := (HB.out.cell (World.block_lt_of_cell? w _ hx216_0)).trans hx216_0
                        replace p216 := eq_true p216
                        replace q216 := eq_true q216
                        have p217 : 0 ≤ (x7_1 : Int) := of_decide_eq_true (by first | (with_reducible assumption) | assumption)
                        have q217 : x7_1 < (l0.length : Int) := of_decide_eq_true (by first | (with_reducible assumption) | assumption)
                        obtain ⟨ad217, e217, hx217_0⟩ := Kd.at_int HR0.out x7_1 p217 q217
                        obtain rfl : ad216 = ad217 := (by injection e217)
                        replace hx217_0 := (HB.out.cell (World.block_lt_of_cell? w _ hx217_0)).trans hx217_0
                        replace p217 := eq_true p217
                        replace q217 := eq_true q217
                        obtain ⟨Ao56, co56, eo56⟩ := Kd.R_slice HO_4.out
                        subst eo56
                        go_wp2_with (first | ((with_reducible refine gate_builtin (b := .append) (xs := #[.tmp 70, .tmp 72]) rfl ?_); at_builtin; refine Kd.R_append (Kd.int .i64) (w0 := w) w.heap.size rfl (.tmp 70) (.tmp 72) 25 3 (.int .i64 0) 8 rfl Tryd.underlying25 info3 rfl (by decide) (by omega) (.slice Ao56 x4_1.length co56) x4_1 (wrap64 ((wrap64 (x5_1 * 128)) + (Int.tmod (wrap64 (rd l0 x7_1)) 128))) [.int .i64 (wrap64 ((wrap64 (x5_1 * 128)) + (Int.tmod (wrap64 (rd l0 x7_1)) 128)))] (fun _ => True) (fun _ => False) rfl rfl ?aP (fun _ hk => hk.elim) ?aF ?aO ?aB ?aS ?aL ?_; (case aP => exact rfl); (case aB => exact (by repeat (first | (with_reducible first | exact HB.out | apply below_alloc | apply pw_below_drewN | apply below_drew1) | exact HB.out))); (case aF => exact (fun _ _ => trivial)); (case aO => exact (by (with_reducible repeat (first | apply Kd.R_alloc | apply Kd.R_drewN | apply Kd.R_drew)); exact HO_4.out)); (case aS => exact (below_size (by repeat (first | (with_reducible first | exact HB.out | apply below_alloc | apply pw_below_drewN | apply below_drew1) | exact HB.out)))); (case aL => have := LMc51.out; omega); intro v225 w57 ho hb hg hat; rw [← Ny224.out] at ho; have n0_ := Aside0.mk (hb); have n1_ := Aside0.mk (ho); clear HB; clear HO_4; have HB := n0_; have HO226 := n1_; clear n0_ n1_; clear ho hb hg hat; obtain ⟨Ao58, co58, eo58⟩ := Kd.R_slice HO226.out; subst eo58))
                        go_roundg k1
                        case measure => have := HK1.out; omega
                        case rel => exact ⟨(y224), (0), (decide ((rd l0 x7_1) ≥ 128)), (wrap64 (x7_1 + 1)), (by first | rfl | (simp; done) | (simp [*]; done)), (by first | rfl | (simp; done) | (simp [*]; done)), (by first | rfl | (simp; done) | (simp [*]; done)), H', ⟨by have := HK1.out; omega⟩, ⟨by (with_reducible repeat (first | apply Kd.R_alloc | apply Kd.R_drewN | apply Kd.R_drew)); exact HO226.out⟩, ⟨by repeat (first | (with_reducible first | exact HB.out | apply below_alloc | apply pw_below_drewN | apply below_drew1) | exact HB.out)⟩⟩
                    · rw [if_neg c51] at H
                      exact absurd H (by simp)
              · rw [if_neg c33] at H
                exact absurd H (by simp)
        · replace c3 := Bool.eq_false_iff.mpr c3
          subst c3
          have H1 : (if 0 ≤ x7_1 then (if (rd l0 x7_1) = 128 then (some (([] : List Int), false)) else (if x5_1 > 72057594037927935 then (some (([] : List Int), false)) else (if x5_1 = 72057594037927935 then (if (Int.tmod (wrap64 (rd l0 x7_1)) 128) > 127 then (some (([] : List Int), false)) else (if (rd l0 x7_1) ≥ 128 then (sobriquetref01_ReadOid.l0 k1 l0 x4_1 (wrap64 ((wrap64 (x5_1 * 128)) + (Int.tmod (wrap64 (rd l0 x7_1)) 128))) (decide ((rd l0 x7_1) ≥ 128)) (wrap64 (x7_1 + 1))) else (if (x4_1.length : Int) = 0 then ((some (([mn (wrap64 (Int.tdiv (wrap64 ((wrap64 (x5_1 * 128)) + (Int.tmod (wrap64 (rd l0 x7_1)) 128))) 40)) 2, wrap64 ((wrap64 ((wrap64 (x5_1 * 128)) + (Int.tmod (wrap64 (rd l0 x7_1)) 128))) - (wrap64 (40 * (mn (wrap64 (Int.tdiv (wrap64 ((wrap64 (x5_1 * 128)) + (Int.tmod (wrap64 (rd l0 x7_1)) 128))) 40)) 2))))] : List Int) : List Int)).bind fun y231 => (if x4_1.length + y231.length < 17592186044416 then ((some (x4_1 ++ y231 : List Int)).bind fun y234 => (if (y234.length : Int) > 40 then (some (([] : List Int), false)) else (sobriquetref01_ReadOid.l0 k1 l0 y234 0 (decide ((rd l0 x7_1) ≥ 128)) (wrap64 (x7_1 + 1))))) else (none))) else (if x4_1.length < 17592186044416 then ((some (x4_1 ++ [wrap64 ((wrap64 (x5_1 * 128)) + (Int.tmod (wrap64 (rd l0 x7_1)) 128))] : List Int)).bind fun y237 => (if (y237.length : Int) > 40 then (some (([] : List Int), false)) else (sobriquetref01_ReadOid.l0 k1 l0 y237 0 (decide ((rd l0 x7_1) ≥ 128)) (wrap64 (x7_1 + 1))))) else (none))))) else (if (rd l0 x7_1) ≥ 128 then (sobriquetref01_ReadOid.l0 k1 l0 x4_1 (wrap64 ((wrap64 (x5_1 * 128)) + (Int.tmod (wrap64 (rd l0 x7_1)) 128))) (decide ((rd l0 x7_1) ≥ 128)) (wrap64 (x7_1 + 1))) else (if (x4_1.length : Int) = 0 then ((some (([mn (wrap64 (Int.tdiv (wrap64 ((wrap64 (x5_1 * 128)) + (Int.tmod (wrap64 (rd l0 x7_1)) 128))) 40)) 2, wrap64 ((wrap64 ((wrap64 (x5_1 * 128)) + (Int.tmod (wrap64 (rd l0 x7_1)) 128))) - (wrap64 (40 * (mn (wrap64 (Int.tdiv (wrap64 ((wrap64 (x5_1 * 128)) + (Int.tmod (wrap64 (rd l0 x7_1)) 128))) 40)) 2))))] : List Int) : List Int)).bind fun y242 => (if x4_1.length + y242.length < 17592186044416 then ((some (x4_1 ++ y242 : List Int)).bind fun y245 => (if (y245.length : Int) > 40 then (some (([] : List Int), false)) else (sobriquetref01_ReadOid.l0 k1 l0 y245 0 (decide ((rd l0 x7_1) ≥ 128)) (wrap64 (x7_1 + 1))))) else (none))) else (if x4_1.length < 17592186044416 then ((some (x4_1 ++ [wrap64 ((wrap64 (x5_1 * 128)) + (Int.tmod (wrap64 (rd l0 x7_1)) 128))] : List Int)).bind fun y248 => (if (y248.length : Int) > 40 then (some (([] : List Int), false)) else (sobriquetref01_ReadOid.l0 k1 l0 y248 0 (decide ((rd l0 x7_1) ≥ 128)) (wrap64 (x7_1 + 1))))) else (none))))))) else (none)) = some (r1, r2) := by rw [if_neg (show ¬ (false = true) by decide)] at H; exact H
          clear H
          have H := H1
          clear H1
          by_cases c59 : 0 ≤ x7_1
          · rw [if_pos c59] at H
            have c59b0 : decide (0 ≤ x7_1) = true := decide_eq_true c59
            clear c59
            by_cases c60 : (rd l0 x7_1) = 128
            · rw [if_pos c60] at H
              have c60b0 : ((rd l0 x7_1) == 128) = true := beq_iff_eq.mpr c60
              have c60b1 : ((rd l0 x7_1) != 128) = false := bne_eq_false_iff_eq.mpr c60
              clear c60
              simp only [Option.some.injEq, Prod.mk.injEq] at H
              obtain ⟨rfl, rfl⟩ := H
              have p227 : 0 ≤ (x7_1 : Int) := of_decide_eq_true (by first | (with_reducible assumption) | assumption)
              have q227 : x7_1 < (l0.length : Int) := of_decide_eq_true (by first | (with_reducible assumption) | assumption)
              obtain ⟨ad227, e227, hx227_0⟩ := Kd.at_int HR0.out x7_1 p227 q227
              cases e227
              replace hx227_0 := (HB.out.cell (World.block_lt_of_cell? w _ hx227_0)).trans hx227_0
              replace p227 := eq_true p227
              replace q227 := eq_true q227
              go_wp2
              go_ret2
              exact ⟨_, by first | rfl | (simp [errW_none, errW_some] <;> rfl) | (simp [*, errW_none, errW_some] <;> rfl), by first | exact Kd.R_nil _ _ _ _ _ | exact Kd.N_nil _ _ _ _ _ | exact Kd.V_nil _ _ _ _ _ | exact Kd.Q_nil _ _ _ _ _ | exact Kd.S_nil _ _ _ _ _, by repeat (first | (with_reducible first | exact HB.out | apply below_alloc | apply pw_below_drewN | apply below_drew1) | exact HB.out)⟩
            · rw [if_neg c60] at H
              have c60b0 : ((rd l0 x7_1) == 128) = false := beq_eq_false_iff_ne.mpr c60
              have c60b1 : ((rd l0 x7_1) != 128) = true := bne_iff_ne.mpr c60
              by_cases c61 : x5_1 > 72057594037927935
              · rw [if_pos c61] at H
                have c61b0 : decide (72057594037927935 < x5_1) = true := decide_eq_true c61
                clear c61
                simp only [Option.some.injEq, Prod.mk.injEq] at H
                obtain ⟨rfl, rfl⟩ := H
                have p227 : 0 ≤ (x7_1 : Int) := of_decide_eq_true (by first | (with_reducible assumption) | assumption)
                have q227 : x7_1 < (l0.length : Int) := of_decide_eq_true (by first | (with_reducible assumption) | assumption)
                obtain ⟨ad227, e227, hx227_0⟩ := Kd.at_int HR0.out x7_1 p227 q227
                cases e227
                replace hx227_0 := (HB.out.cell (World.block_lt_of_cell? w _ hx227_0)).trans hx227_0
                replace p227 := eq_true p227
                replace q227 := eq_true q227
                go_wp2
                go_ret2
                exact ⟨_, by first | rfl | (simp [errW_none, errW_some] <;> rfl) | (simp [*, errW_none, errW_some] <;> rfl), by first | exact Kd.R_nil _ _ _ _ _ | exact Kd.N_nil _ _ _ _ _ | exact Kd.V_nil _ _ _ _ _ | exact Kd.Q_nil _ _ _ _ _ | exact Kd.S_nil _ _ _ _ _, by repeat (first | (with_reducible first | exact HB.out | apply below_alloc | apply pw_below_drewN | apply below_drew1) | exact HB.out)⟩
              · rw [if_neg c61] at H
                have c61b0 : decide (72057594037927935 < x5_1) = false := decide_eq_false c61
                clear c61
                by_cases c62 : x5_1 = 72057594037927935
                · rw [if_pos c62] at H
                  have c62b0 : (x5_1 == 72057594037927935) = true := beq_iff_eq.mpr c62
                  have c62b1 : (x5_1 != 72057594037927935) = false := bne_eq_false_iff_eq.mpr c62
                  clear c62
                  by_cases c63 : (Int.tmod (wrap64 (rd l0 x7_1)) 128) > 127
                  · rw [if_pos c63] at H
                    have c63b0 : decide (127 < (Int.tmod (wrap64 (rd l0 x7_1)) 128)) = true := decide_eq_true c63
                    clear c63
                    simp only [Option.some.injEq, Prod.mk.injEq] at H
                    obtain ⟨rfl, rfl⟩ := H
                    have p227 : 0 ≤ (x7_1 : Int) := of_decide_eq_true (by first | (with_reducible assumption) | assumption)
                    have q227 : x7_1 < (l0.length : Int) := of_decide_eq_true (by first | (with_reducible assumption) | assumption)
                    obtain ⟨ad227, e227, hx227_0⟩ := Kd.at_int HR0.out x7_1 p227 q227
                    cases e227
                    replace hx227_0 := (HB.out.cell (World.block_lt_of_cell? w _ hx227_0)).trans hx227_0
                    replace p227 := eq_true p227
                    replace q227 := eq_true q227
                    have p228 : 0 ≤ (x7_1 : Int) := of_decide_eq_true (by first | (with_reducible assumption) | assumption)
                    have q228 : x7_1 < (l0.length : Int) := of_decide_eq_true (by first | (with_reducible assumption) | assumption)
                    obtain ⟨ad228, e228, hx228_0⟩ := Kd.at_int HR0.out x7_1 p228 q228
                    obtain rfl : ad227 = ad228 := (by injection e228)
                    replace hx228_0 := (HB.out.cell (World.block_lt_of_cell? w _ hx228_0)).trans hx228_0
                    replace p228 := eq_true p228
                    replace q228 := eq_true q228
                    go_wp2
                    go_ret2
                    exact ⟨_, by first | rfl | (simp [errW_none, errW_some] <;> rfl) | (simp [*, errW_none, errW_some] <;> rfl), by first | exact Kd.R_nil _ _ _ _ _ | exact Kd.N_nil _ _ _ _ _ | exact Kd.V_nil _ _ _ _ _ | exact Kd.Q_nil _ _ _ _ _ | exact Kd.S_nil _ _ _ _ _, by repeat (first | (with_reducible first | exact HB.out | apply below_alloc | apply pw_below_drewN | apply below_drew1) | exact HB.out)⟩
                  · rw [if_neg c63] at H
                    have c63b0 : decide (127 < (Int.tmod (wrap64 (rd l0 x7_1)) 128)) = false := decide_eq_false c63
                    clear c63
                    by_cases c64 : (rd l0 x7_1) ≥ 128
                    · rw [if_pos c64] at H
                      have c64b0 : decide (128 ≤ (rd l0 x7_1)) = true := decide_eq_true c64
                      clear c64
                      have H' := Aside0.mk H
                      clear H
                      have p227 : 0 ≤ (x7_1 : Int) := of_decide_eq_true (by first | (with_reducible assumption) | assumption)
                      have q227 : x7_1 < (l0.length : Int) := of_decide_eq_true (by first | (with_reducible assumption) | assumption)
                      obtain ⟨ad227, e227, hx227_0⟩ := Kd.at_int HR0.out x7_1 p227 q227
                      cases e227
                      replace hx227_0 := (HB.out.cell (World.block_lt_of_cell? w _ hx227_0)).trans hx227_0
                      replace p227 := eq_true p227
                      replace q227 := eq_true q227
                      have p228 : 0 ≤ (x7_1 : Int) := of_decide_eq_true (by first | (with_reducible assumption) | assumption)
                      have q228 : x7_1 < (l0.length : Int) := of_decide_eq_true (by first | (with_reducible assumption) | assumption)
                      obtain ⟨ad228, e228, hx228_0⟩ := Kd.at_int HR0.out x7_1 p228 q228
                      obtain rfl : ad227 = ad228 := (by injection e228)
                      replace hx228_0 := (HB.out.cell (World.block_lt_of_cell? w _ hx228_0)).trans hx228_0
                      replace p228 := eq_true p228
                      replace q228 := eq_true q228
                      have p229 : 0 ≤ (x7_1 : Int) := of_decide_eq_true (by first | (with_reducible assumption) | assumption)
                      have q229 : x7_1 < (l0.length : Int) := of_decide_eq_true (by first | (with_reducible assumption) | assumption)
                      obtain ⟨ad229, e229, hx229_0⟩ := Kd.at_int HR0.out x7_1 p229 q229
                      obtain rfl : ad227 = ad229 := (by injection e229)
                      replace hx229_0 := (HB.out.cell (World.block_lt_of_cell? w _ hx229_0)).trans hx229_0
                      replace p229 := eq_true p229
                      replace q229 := eq_true q229
                      have p230 : 0 ≤ (x7_1 : Int) := of_decide_eq_true (by first | (with_reducible assumption) | assumption)
                      have q230 : x7_1 < (l0.length : Int) := of_decide_eq_true (by first | (with_reducible assumption) | assumption)
                      obtain ⟨ad230, e230, hx230_0⟩ := Kd.at_int HR0.out x7_1 p230 q230
                      obtain rfl : ad227 = ad230 := (by injection e230)
                      replace hx230_0 := (HB.out.cell (World.block_lt_of_cell? w _ hx230_0)).trans hx230_0
                      replace p230 := eq_true p230
                      replace q230 := eq_true q230
                      go_wp2
                      go_roundg k1
                      case measure => have := HK1.out; omega
                      case rel => exact ⟨(x4_1), (wrap64 ((wrap64 (x5_1 * 128)) + (Int.tmod (wrap64 (rd l0 x7_1)) 128))), (decide ((rd l0 x7_1) ≥ 128)), (wrap64 (x7_1 + 1)), (by first | rfl | (simp; done) | (simp [*]; done)), (by first | rfl | (simp; done) | (simp [*]; done)), (by first | rfl | (simp; done) | (simp [*]; done)), H', ⟨by have := HK1.out; omega⟩, ⟨by (with_reducible repeat (first | apply Kd.R_alloc | apply Kd.R_drewN | apply Kd.R_drew)); exact HO_4.out⟩, ⟨by repeat (first | (with_reducible first | exact HB.out | apply below_alloc | apply pw_below_drewN | apply below_drew1) | exact HB.out)⟩⟩
                    · rw [if_neg c64] at H
                      have c64b0 : decide (128 ≤ (rd l0 x7_1)) = false := decide_eq_false c64
                      clear c64
                      by_cases c65 : (x4_1.length : Int) = 0
                      · rw [if_pos c65] at H
                        have c65b0 : ((x4_1.length : Int) == 0) = true := beq_iff_eq.mpr c65
                        have c65b1 : ((x4_1.length : Int) != 0) = false := bne_eq_false_iff_eq.mpr c65
                        clear c65
                        obtain ⟨ji66, hji66⟩ : ∃ j_ : Int, (mn (wrap64 (Int.tdiv (wrap64 ((wrap64 (x5_1 * 128)) + (Int.tmod (wrap64 (rd l0 x7_1)) 128))) 40)) 2) = j_ := ⟨_, rfl⟩
                        replace H : ((some (([ji66, wrap64 ((wrap64 ((wrap64 (x5_1 * 128)) + (Int.tmod (wrap64 (rd l0 x7_1)) 128))) - (wrap64 (40 * (ji66))))] : List Int) : List Int)).bind fun y231 => (if x4_1.length + y231.length < 17592186044416 then ((some (x4_1 ++ y231 : List Int)).bind fun y234 => (if (y234.length : Int) > 40 then (some (([] : List Int), false)) else (sobriquetref01_ReadOid.l0 k1 l0 y234 0 (decide ((rd l0 x7_1) ≥ 128)) (wrap64 (x7_1 + 1))))) else (none))) = some (r1, r2) := by first | (rw [hji66] at H; exact H) | (simp only [hji66] at H ⊢; exact H)
                        have hji66_ : (if 2 < (wrap64 (Int.tdiv (wrap64 ((wrap64 (x5_1 * 128)) + (Int.tmod (wrap64 (rd l0 x7_1)) 128))) 40)) then 2 else (wrap64 (Int.tdiv (wrap64 ((wrap64 (x5_1 * 128)) + (Int.tmod (wrap64 (rd l0 x7_1)) 128))) 40))) = ji66 := hji66
                        obtain ⟨y231, hy231⟩ : ∃ y_ : List Int, y_ = (([ji66, wrap64 ((wrap64 ((wrap64 (x5_1 * 128)) + (Int.tmod (wrap64 (rd l0 x7_1)) 128))) - (wrap64 (40 * (ji66))))] : List Int)) := ⟨_, rfl⟩
                        replace H : (if x4_1.length + y231.length < 17592186044416 then ((some (x4_1 ++ y231 : List Int)).bind fun y234 => (if (y234.length : Int) > 40 then (some (([] : List Int), false)) else (sobriquetref01_ReadOid.l0 k1 l0 y234 0 (decide ((rd l0 x7_1) ≥ 128)) (wrap64 (x7_1 + 1))))) else (none)) = some (r1, r2) := by first | (rw [hy231]; with_reducible exact H) | (have H2_ := (Option.bind_some _ _).symm.trans H; rw [hy231]; with_reducible exact H2_) | (have H2_ := (Option.bind_some _ _).symm.trans H; with_reducible exact H2_) | with_reducible exact H | (rw [hy231]; exact H) | exact H
                        have Ny231 := Aside0.mk hy231
                        clear hy231
                        by_cases c67 : x4_1.length + y231.length < 17592186044416
                        · rw [if_pos c67] at H
                          have LMc67 := Aside0.mk c67
                          clear c67
                          obtain ⟨y234, hy234⟩ : ∃ y_ : List Int, y_ = (x4_1 ++ y231) := ⟨_, rfl⟩
                          replace H : (if (y234.length : Int) > 40 then (some (([] : List Int), false)) else (sobriquetref01_ReadOid.l0 k1 l0 y234 0 (decide ((rd l0 x7_1) ≥ 128)) (wrap64 (x7_1 + 1)))) = some (r1, r2) := by first | (rw [hy234]; with_reducible exact H) | (have H2_ := (Option.bind_some _ _).symm.trans H; rw [hy234]; with_reducible exact H2_) | (have H2_ := (Option.bind_some _ _).symm.trans H; with_reducible exact H2_) | with_reducible exact H | (rw [hy234]; exact H) | exact H
                          have Ny234 := Aside0.mk hy234
                          clear hy234
                          by_cases c68 : (y234.length : Int) > 40
                          · rw [if_pos c68] at H
                            have c68b0 : decide (40 < (y234.length : Int)) = true := decide_eq_true c68
                            have c68b1 : decide (40 < y234.length) = true := decide_eq_true (by omega)
                            clear c68
                            simp only [Option.some.injEq, Prod.mk.injEq] at H
                            obtain ⟨rfl, rfl⟩ := H
                            have p227 : 0 ≤ (x7_1 : Int) := of_decide_eq_true (by first | (with_reducible assumption) | assumption)
                            have q227 : x7_1 < (l0.length : Int) := of_decide_eq_true (by first | (with_reducible assumption) | assumption)
                            obtain ⟨ad227, e227, hx227_0⟩ := Kd.at_int HR0.out x7_1 p227 q227
                            cases e227
                            replace hx227_0 := (HB.out.cell (World.block_lt_of_cell? w _ hx227_0)).trans hx227_0
                            replace p227 := eq_true p227
                            replace q227 := eq_true q227
                            have p228 : 0 ≤ (x7_1 : Int) := of_decide_eq_true (by first | (with_reducible assumption) | assumption)
                            have q228 : x7_1 < (l0.length : Int) := of_decide_eq_true (by first | (with_reducible assumption) | assumption)
                            obtain ⟨ad228, e228, hx228_0⟩ := Kd.at_int HR0.out x7_1 p228 q228
                            obtain rfl : ad227 = ad228 := (by injection e228)
                            replace hx228_0 := (HB.out.cell (World.block_lt_of_cell? w _ hx228_0)).trans hx228_0
                            replace p228 := eq_true p228
                            replace q228 := eq_true q228
                            have p229 : 0 ≤ (x7_1 : Int) := of_decide_eq_true (by first | (with_reducible assumption) | assumption)
                            have q229 : x7_1 < (l0.length : Int) := of_decide_eq_true (by first | (with_reducible assumption) | assumption)
                            obtain ⟨ad229, e229, hx229_0⟩ := Kd.at_int HR0.out x7_1 p229 q229
                            obtain rfl : ad227 = ad229 := (by injection e229)
                            replace hx229_0 := (HB.out.cell (World.block_lt_of_cell? w _ hx229_0)).trans hx229_0
                            replace p229 := eq_true p229
                            replace q229 := eq_true q229
                            have p230 : 0 ≤ (x7_1 : Int) := of_decide_eq_true (by first | (with_reducible assumption) | assumption)
                            have q230 : x7_1 < (l0.length : Int) := of_decide_eq_true (by first | (with_reducible assumption) | assumption)
                            obtain ⟨ad230, e230, hx230_0⟩ := Kd.at_int HR0.out x7_1 p230 q230
                            obtain rfl : ad227 = ad230 := (by injection e230)
                            replace hx230_0 := (HB.out.cell (World.block_lt_of_cell? w _ hx230_0)).trans hx230_0
                            replace p230 := eq_true p230
                            replace q230 := eq_true q230
                            obtain ⟨Ao69, co69, eo69⟩ := Kd.R_slice HO_4.out
                            subst eo69
                            go_wp2_with (first | ((with_reducible refine gate_dst (N := 68) rfl ?_); refine Kd.R_lit (Kd.int .i64) _ 3 ?hg (N := 68) ?hd (xs := ([ji66, wrap64 ((wrap64 ((wrap64 (x5_1 * 128)) + (Int.tmod (wrap64 (rd l0 x7_1)) 128))) - (wrap64 (40 * (ji66))))] : List Int)) (inner := [.int .i64 ji66, .int .i64 (wrap64 ((wrap64 ((wrap64 (x5_1 * 128)) + (Int.tmod (wrap64 (rd l0 x7_1)) 128))) - (wrap64 (40 * (ji66)))))]) (ok := fun _ => True) (okp := fun _ => True) ?hr ?hp (fun _ hk => hk) trivial (Below.refl _ _) (Nat.le_refl _) (by simp) ?_; (case hd => rfl); (case hg => rfl); (case hr => first | (go_simp; done) | (go_simp; rfl)); (case hp => exact (Reps.one (show Kd.M (Kd.int .i64) _ _ _ ji66 [.int .i64 ji66] from rfl) (Reps.one (show Kd.M (Kd.int .i64) _ _ _ (wrap64 ((wrap64 ((wrap64 (x5_1 * 128)) + (Int.tmod (wrap64 (rd l0 x7_1)) 128))) - (wrap64 (40 * (ji66))))) [.int .i64 (wrap64 ((wrap64 ((wrap64 (x5_1 * 128)) + (Int.tmod (wrap64 (rd l0 x7_1)) 128))) - (wrap64 (40 * (ji66)))))] from rfl) (Reps.none _ _)))); intro v232 w70 ho71 hb hg_ hnew_; clear hg_ hnew_; (first | rw [← Ny231.out] at ho71 | (simp only [Int.reduceToNat] at ho71; rw [← Ny231.out] at ho71)); have n0_ := Aside0.mk (Kd.R_elder' (by (with_reducible repeat (first | apply Kd.R_alloc | apply Kd.R_drewN | apply Kd.R_drew)); exact HO_4.out) (Kd.R_base ho71) hb); have n1_ := Aside0.mk (Kd.R_lower (Kd.R_new' ho71 (Kd.R_lt (by (with_reducible repeat (first | apply Kd.R_alloc | apply Kd.R_drewN | apply Kd.R_drew)); exact HO_4.out))) (below_size (by repeat (first | (with_reducible first | exact HB.out | apply below_alloc | apply pw_below_drewN | apply below_drew1) | exact HB.out)))); have n2_ := Aside0.mk (below_step (by repeat (first | (with_reducible first | exact HB.out | apply below_alloc | apply pw_below_drewN | apply below_drew1) | exact HB.out)) hb); clear HO_4; clear HB; have HO_4 := n0_; have HO233 := n1_; have HB := n2_; clear n0_ n1_ n2_; clear hb ho71; obtain ⟨Ao73, co73, eo73⟩ := Kd.R_slice HO233.out; subst eo73) | ((with_reducible refine gate_builtin (b := .append) (xs := #[.tmp 62, .tmp 68]) rfl ?_); at_builtin; refine Kd.R_append_rows (Kd.int .i64) (w0 := w) w.heap.size rfl (.tmp 62) (.tmp 68) 25 3 (.int .i64 0) 8 rfl Tryd.underlying25 info3 rfl (by decide) (by omega) (.slice Ao69 x4_1.length co69) x4_1 y231 _ _ _ (fun k_ => some k_ ≠ (.slice Ao73 y231.length co73 : Value).ownBlock) (fun _ => False) rfl rfl ?aO ?aR (fun _ _ h => h) (fun _ h => h.elim) ?aF ?aB ?aS ?aL ?_; (case aR => repeat (first | exact (Kd.R_reads' HO233.out).2.2 | (with_reducible refine Kd.C_alloc ?_ _) | (with_reducible refine Kd.C_drewN ?_ _) | (with_reducible refine Kd.C_drew ?_))); (case aB => exact (by repeat (first | (with_reducible first | exact HB.out | apply below_alloc | apply pw_below_drewN | apply below_drew1) | exact HB.out))); (case aF => exact (fun k_ hk => Kd.fresh' (Kd.R_lt (by (with_reducible repeat (first | apply Kd.R_alloc | apply Kd.R_drewN | apply Kd.R_drew)); exact HO233.out)) k_ hk)); (case aO => exact (by (with_reducible repeat (first | apply Kd.R_alloc | apply Kd.R_drewN | apply Kd.R_drew)); exact Kd.R_mono HO_4.out (fun _ hk => by first | exact hk.2 | trivial | exact hk))); (case aS => exact (below_size (by repeat (first | (with_reducible first | exact HB.out | apply below_alloc | apply pw_below_drewN | apply below_drew1) | exact HB.out)))); (case aL => have := LMc67.out; omega); intro v235 w72 ho hb hg hat; rw [← Ny234.out] at ho; have n0_ := Aside0.mk (Kd.R_after (ok := (fun _ => True)) (by (with_reducible repeat (first | apply Kd.R_alloc | apply Kd.R_drewN | apply Kd.R_drew)); exact HO233.out) hg hat); have n1_ := Aside0.mk (hb); have n2_ := Aside0.mk (ho); clear HO233; clear HB; clear HO_4; have HO233 := n0_; have HB := n1_; have HO236 := n2_; clear n0_ n1_ n2_; clear ho hb hg hat; obtain ⟨Ao74, co74, eo74⟩ := Kd.R_slice HO236.out; subst eo74))
                            go_ret2
                            exact ⟨_, by first | rfl | (simp [errW_none, errW_some] <;> rfl) | (simp only [← hji66]; first | rfl | (simp [errW_none, errW_some] <;> rfl)) | (simp [*, errW_none, errW_some] <;> rfl), by first | exact Kd.R_nil _ _ _ _ _ | exact Kd.N_nil _ _ _ _ _ | exact Kd.V_nil _ _ _ _ _ | exact Kd.Q_nil _ _ _ _ _ | exact Kd.S_nil _ _ _ _ _, by repeat (first | (with_reducible first | exact HB.out | apply below_alloc | apply pw_below_drewN | apply below_drew1) | exact HB.out)⟩
                          · rw [if_neg c68] at H
                            have c68b0 : decide (40 < (y234.length : Int)) = false := decide_eq_false c68
                            have c68b1 : decide (40 < y234.length) = false := decide_eq_false (by omega)
                            clear c68
                            have H' := Aside0.mk H
                            clear H
                            have p227 : 0 ≤ (x7_1 : Int) := of_decide_eq_true (by first | (with_reducible assumption) | assumption)
                            have q227 : x7_1 < (l0.length : Int) := of_decide_eq_true (by first | (with_reducible assumption) | assumption)
                            obtain ⟨ad227, e227, hx227_0⟩ := Kd.at_int HR0.out x7_1 p227 q227
                            cases e227
                            replace hx227_0 := (HB.out.cell (World.block_lt_of_cell? w _ hx227_0)).trans hx227_0
                            replace p227 := eq_true p227
                            replace q227 := eq_true q227
                            have p228 : 0 ≤ (x7_1 : Int) := of_decide_eq_true (by first | (with_reducible assumption) | assumption)
                            have q228 : x7_1 < (l0.length : Int) := of_decide_eq_true (by first | (with_reducible assumption) | assumption)
                            obtain ⟨ad228, e228, hx228_0⟩ := Kd.at_int HR0.out x7_1 p228 q228
                            obtain rfl : ad227 = ad228 := (by injection e228)
                            replace hx228_0 := (HB.out.cell (World.block_lt_of_cell? w _ hx228_0)).trans hx228_0
                            replace p228 := eq_true p228
                            replace q228 := eq_true q228
                            have p229 : 0 ≤ (x7_1 : Int) := of_decide_eq_true (by first | (with_reducible assumption) | assumption)
                            have q229 : x7_1 < (l0.length : Int) := of_decide_eq_true (by first | (with_reducible assumption) | assumption)
                            obtain ⟨ad229, e229, hx229_0⟩ := Kd.at_int HR0.out x7_1 p229 q229
                            obtain rfl : ad227 = ad229 := (by injection e229)
                            replace hx229_0 := (HB.out.cell (World.block_lt_of_cell? w _ hx229_0)).trans hx229_0
                            replace p229 := eq_true p229
                            replace q229 := eq_true q229
                            have p230 : 0 ≤ (x7_1 : Int) := of_decide_eq_true (by first | (with_reducible assumption) | assumption)
                            have q230 : x7_1 < (l0.length : Int) := of_decide_eq_true (by first | (with_reducible assumption) | assumption)
                            obtain ⟨ad230, e230, hx230_0⟩ := Kd.at_int HR0.out x7_1 p230 q230
                            obtain rfl : ad227 = ad230 := (by injection e230)
                            replace hx230_0 := (HB.out.cell (World.block_lt_of_cell? w _ hx230_0)).trans hx230_0
                            replace p230 := eq_true p230
                            replace q230 := eq_true q230
                            obtain ⟨Ao75, co75, eo75⟩ := Kd.R_slice HO_4.out
                            subst eo75
                            go_wp2_with (first | ((with_reducible refine gate_dst (N := 68) rfl ?_); refine Kd.R_lit (Kd.int .i64) _ 3 ?hg (N := 68) ?hd (xs := ([ji66, wrap64 ((wrap64 ((wrap64 (x5_1 * 128)) + (Int.tmod (wrap64 (rd l0 x7_1)) 128))) - (wrap64 (40 * (ji66))))] : List Int)) (inner := [.int .i64 ji66, .int .i64 (wrap64 ((wrap64 ((wrap64 (x5_1 * 128)) + (Int.tmod (wrap64 (rd l0 x7_1)) 128))) - (wrap64 (40 * (ji66)))))]) (ok := fun _ => True) (okp := fun _ => True) ?hr ?hp (fun _ hk => hk) trivial (Below.refl _ _) (Nat.le_refl _) (by simp) ?_; (case hd => rfl); (case hg => rfl); (case hr => first | (go_simp; done) | (go_simp; rfl)); (case hp => exact (Reps.one (show Kd.M (Kd.int .i64) _ _ _ ji66 [.int .i64 ji66] from rfl) (Reps.one (show Kd.M (Kd.int .i64) _ _ _ (wrap64 ((wrap64 ((wrap64 (x5_1 * 128)) + (Int.tmod (wrap64 (rd l0 x7_1)) 128))) - (wrap64 (40 * (ji66))))) [.int .i64 (wrap64 ((wrap64 ((wrap64 (x5_1 * 128)) + (Int.tmod (wrap64 (rd l0 x7_1)) 128))) - (wrap64 (40 * (ji66)))))] from rfl) (Reps.none _ _)))); intro v232 w76 ho77 hb hg_ hnew_; clear hg_ hnew_; (first | rw [← Ny231.out] at ho77 | (simp only [Int.reduceToNat] at ho77; rw [← Ny231.out] at ho77)); have n0_ := Aside0.mk (Kd.R_elder' (by (with_reducible repeat (first | apply Kd.R_alloc | apply Kd.R_drewN | apply Kd.R_drew)); exact HO_4.out) (Kd.R_base ho77) hb); have n1_ := Aside0.mk (Kd.R_lower (Kd.R_new' ho77 (Kd.R_lt (by (with_reducible repeat (first | apply Kd.R_alloc | apply Kd.R_drewN | apply Kd.R_drew)); exact HO_4.out))) (below_size (by repeat (first | (with_reducible first | exact HB.out | apply below_alloc | apply pw_below_drewN | apply below_drew1) | exact HB.out)))); have n2_ := Aside0.mk (below_step (by repeat (first | (with_reducible first | exact HB.out | apply below_alloc | apply pw_below_drewN | apply below_drew1) | exact HB.out)) hb); clear HO_4; clear HB; have HO_4 := n0_; have HO233 := n1_; have HB := n2_; clear n0_ n1_ n2_; clear hb ho77; obtain ⟨Ao79, co79, eo79⟩ := Kd.R_slice HO233.out; subst eo79) | ((with_reducible refine gate_builtin (b := .append) (xs := #[.tmp 62, .tmp 68]) rfl ?_); at_builtin; refine Kd.R_append_rows (Kd.int .i64) (w0 := w) w.heap.size rfl (.tmp 62) (.tmp 68) 25 3 (.int .i64 0) 8 rfl Tryd.underlying25 info3 rfl (by decide) (by omega) (.slice Ao75 x4_1.length co75) x4_1 y231 _ _ _ (fun k_ => some k_ ≠ (.slice Ao79 y231.length co79 : Value).ownBlock) (fun _ => False) rfl rfl ?aO ?aR (fun _ _ h => h) (fun _ h => h.elim) ?aF ?aB ?aS ?aL ?_; (case aR => repeat (first | exact (Kd.R_reads' HO233.out).2.2 | (with_reducible refine Kd.C_alloc ?_ _) | (with_reducible refine Kd.C_drewN ?_ _) | (with_reducible refine Kd.C_drew ?_))); (case aB => exact (by repeat (first | (with_reducible first | exact HB.out | apply below_alloc | apply pw_below_drewN | apply below_drew1) | exact HB.out))); (case aF => exact (fun k_ hk => Kd.fresh' (Kd.R_lt (by (with_reducible repeat (first | apply Kd.R_alloc | apply Kd.R_drewN | apply Kd.R_drew)); exact HO233.out)) k_ hk)); (case aO => exact (by (with_reducible repeat (first | apply Kd.R_alloc | apply Kd.R_drewN | apply Kd.R_drew)); exact Kd.R_mono HO_4.out (fun _ hk => by first | exact hk.2 | trivial | exact hk))); (case aS => exact (below_size (by repeat (first | (with_reducible first | exact HB.out | apply below_alloc | apply pw_below_drewN | apply below_drew1) | exact HB.out)))); (case aL => have := LMc67.out; omega); intro v235 w78 ho hb hg hat; rw [← Ny234.out] at ho; have n0_ := Aside0.mk (Kd.R_after (ok := (fun _ => True)) (by (with_reducible repeat (first | apply Kd.R_alloc | apply Kd.R_drewN | apply Kd.R_drew)); exact HO233.out) hg hat); have n1_ := Aside0.mk (hb); have n2_ := Aside0.mk (ho); clear HO233; clear HB; clear HO_4; have HO233 := n0_; have HB := n1_; have HO236 := n2_; clear n0_ n1_ n2_; clear ho hb hg hat; obtain ⟨Ao80, co80, eo80⟩ := Kd.R_slice HO236.out; subst eo80))
                            go_roundg k1
                            case measure => have := HK1.out; omega
                            case rel => exact ⟨(y234), (0), (decide ((rd l0 x7_1) ≥ 128)), (wrap64 (x7_1 + 1)), (by first | rfl | (simp; done) | (simp [*]; done)), (by first | rfl | (simp; done) | (simp [*]; done)), (by first | rfl | (simp; done) | (simp [*]; done)), H', ⟨by have := HK1.out; omega⟩, ⟨by (with_reducible repeat (first | apply Kd.R_alloc | apply Kd.R_drewN | apply Kd.R_drew)); exact Kd.R_mono HO236.out (fun _ hk => trivial)⟩, ⟨by repeat (first | (with_reducible first | exact HB.out | apply below_alloc | apply pw_below_drewN | apply below_drew1) | exact HB.out)⟩⟩
                        · rw [if_neg c67] at H
                          exact absurd H (by simp)
                      · rw [if_neg c65] at H
                        have c65b0 : ((x4_1.length : Int) == 0) = false := beq_eq_false_iff_ne.mpr c65
                        have c65b1 : ((x4_1.length : Int) != 0) = true := bne_iff_ne.mpr c65
                        have c65b2 : ¬ (x4_1 = []) := fun h_ => c65 (by rw [h_]; rfl)
                        by_cases c81 : x4_1.length < 17592186044416
                        · rw [if_pos c81] at H
                          have LMc81 := Aside0.mk c81
                          clear c81
                          obtain ⟨y237, hy237⟩ : ∃ y_ : List Int, y_ = (x4_1 ++ [wrap64 ((wrap64 (x5_1 * 128)) + (Int.tmod (wrap64 (rd l0 x7_1)) 128))]) := ⟨_, rfl⟩
                          replace H : (if (y237.length : Int) > 40 then (some (([] : List Int), false)) else (sobriquetref01_ReadOid.l0 k1 l0 y237 0 (decide ((rd l0 x7_1) ≥ 128)) (wrap64 (x7_1 + 1)))) = some (r1, r2) := by first | (rw [hy237]; with_reducible exact H) | (have H2_ := (Option.bind_some _ _).symm.trans H; rw [hy237]; with_reducible exact H2_) | (have H2_ := (Option.bind_some _ _).symm.trans H; with_reducible exact H2_) | with_reducible exact H | (rw [hy237]; exact H) | exact H
                          have Ny237 := Aside0.mk hy237
                          clear hy237
                          by_cases c82 : (y237.length : Int) > 40
                          · rw [if_pos c82] at H
                            have c82b0 : decide (40 < (y237.length : Int)) = true := decide_eq_true c82
                            have c82b1 : decide (40 < y237.length) = true := decide_eq_true (by omega)
                            clear c82
                            simp only [Option.some.injEq, Prod.mk.injEq] at H
                            obtain ⟨rfl, rfl⟩ := H
                            have p227 : 0 ≤ (x7_1 : Int) := of_decide_eq_true (by first | (with_reducible assumption) | assumption)
                            have q227 : x7_1 < (l0.length : Int) := of_decide_eq_true (by first | (with_reducible assumption) | assumption)
                            obtain ⟨ad227, e227, hx227_0⟩ := Kd.at_int HR0.out x7_1 p227 q227
                            cases e227
                            replace hx227_0 := (HB.out.cell (World.block_lt_of_cell? w _ hx227_0)).trans hx227_0
                            replace p227 := eq_true p227
                            replace q227 := eq_true q227
                            have p228 : 0 ≤ (x7_1 : Int) := of_decide_eq_true (by first | (with_reducible assumption) | assumption)
                            have q228 : x7_1 < (l0.length : Int) := of_decide_eq_true (by first | (with_reducible assumption) | assumption)
                            obtain ⟨ad228, e228, hx228_0⟩ := Kd.at_int HR0.out x7_1 p228 q228
                            obtain rfl : ad227 = ad228 := (by injection e228)
                            replace hx228_0 := (HB.out.cell (World.block_lt_of_cell? w _ hx228_0)).trans hx228_0
                            replace p228 := eq_true p228
                            replace q228 := eq_true q228
                            have p229 : 0 ≤ (x7_1 : Int) := of_decide_eq_true (by first | (with_reducible assumption) | assumption)
                            have q229 : x7_1 < (l0.length : Int) := of_decide_eq_true (by first | (with_reducible assumption) | assumption)
                            obtain ⟨ad229, e229, hx229_0⟩ := Kd.at_int HR0.out x7_1 p229 q229
                            obtain rfl : ad227 = ad229 := (by injection e229)
                            replace hx229_0 := (HB.out.cell (World.block_lt_of_cell? w _ hx229_0)).trans hx229_0
                            replace p229 := eq_true p229
                            replace q229 := eq_true q229
                            have p230 : 0 ≤ (x7_1 : Int) := of_decide_eq_true (by first | (with_reducible assumption) | assumption)
                            have q230 : x7_1 < (l0.length : Int) := of_decide_eq_true (by first | (with_reducible assumption) | assumption)
                            obtain ⟨ad230, e230, hx230_0⟩ := Kd.at_int HR0.out x7_1 p230 q230
                            obtain rfl : ad227 = ad230 := (by injection e230)
                            replace hx230_0 := (HB.out.cell (World.block_lt_of_cell? w _ hx230_0)).trans hx230_0
                            replace p230 := eq_true p230
                            replace q230 := eq_true q230
                            obtain ⟨Ao83, co83, eo83⟩ := Kd.R_slice HO_4.out
                            subst eo83
                            go_wp2_with (first | ((with_reducible refine gate_builtin (b := .append) (xs := #[.tmp 70, .tmp 72]) rfl ?_); at_builtin; refine Kd.R_append (Kd.int .i64) (w0 := w) w.heap.size rfl (.tmp 70) (.tmp 72) 25 3 (.int .i64 0) 8 rfl Tryd.underlying25 info3 rfl (by decide) (by omega) (.slice Ao83 x4_1.length co83) x4_1 (wrap64 ((wrap64 (x5_1 * 128)) + (Int.tmod (wrap64 (rd l0 x7_1)) 128))) [.int .i64 (wrap64 ((wrap64 (x5_1 * 128)) + (Int.tmod (wrap64 (rd l0 x7_1)) 128)))] (fun _ => True) (fun _ => False) rfl rfl ?aP (fun _ hk => hk.elim) ?aF ?aO ?aB ?aS ?aL ?_; (case aP => exact rfl); (case aB => exact (by repeat (first | (with_reducible first | exact HB.out | apply below_alloc | apply pw_below_drewN | apply below_drew1) | exact HB.out))); (case aF => exact (fun _ _ => trivial)); (case aO => exact (by (with_reducible repeat (first | apply Kd.R_alloc | apply Kd.R_drewN | apply Kd.R_drew)); exact HO_4.out)); (case aS => exact (below_size (by repeat (first | (with_reducible first | exact HB.out | apply below_alloc | apply pw_below_drewN | apply below_drew1) | exact HB.out)))); (case aL => have := LMc81.out; omega); intro v238 w84 ho hb hg hat; rw [← Ny237.out] at ho; have n0_ := Aside0.mk (hb); have n1_ := Aside0.mk (ho); clear HB; clear HO_4; have HB := n0_; have HO239 := n1_; clear n0_ n1_; clear ho hb hg hat; obtain ⟨Ao85, co85, eo85⟩ := Kd.R_slice HO239.out; subst eo85))
                            go_ret2
                            exact ⟨_, by first | rfl | (simp [errW_none, errW_some] <;> rfl) | (simp [*, errW_none, errW_some] <;> rfl), by first | exact Kd.R_nil _ _ _ _ _ | exact Kd.N_nil _ _ _ _ _ | exact Kd.V_nil _ _ _ _ _ | exact Kd.Q_nil _ _ _ _ _ | exact Kd.S_nil _ _ _ _ _, by repeat (first | (with_reducible first | exact HB.out | apply below_alloc | apply pw_below_drewN | apply below_drew1) | exact HB.out)⟩
                          · rw [if_neg c82] at H
                            have c82b0 : decide (40 < (y237.length : Int)) = false := decide_eq_false c82
                            have c82b1 : decide (40 < y237.length) = false := decide_eq_false (by omega)
                            clear c82
                            have H' := Aside0.mk H
                            clear H
                            have p227 : 0 ≤ (x7_1 : Int) := of_decide_eq_true (by first | (with_reducible assumption) | assumption)
                            have q227 : x7_1 < (l0.length : Int) := of_decide_eq_true (by first | (with_reducible assumption) | assumption)
                            obtain ⟨ad227, e227, hx227_0⟩ := Kd.at_int HR0.out x7_1 p227 q227
                            cases e227
                            replace hx227_0 := (HB.out.cell (World.block_lt_of_cell? w _ hx227_0)).trans hx227_0
                            replace p227 := eq_true p227
                            replace q227 := eq_true q227
                            have p228 : 0 ≤ (x7_1 : Int) := of_decide_eq_true (by first | (with_reducible assumption) | assumption)
                            have q228 : x7_1 < (l0.length : Int) := of_decide_eq_true (by first | (with_reducible assumption) | assumption)
                            obtain ⟨ad228, e228, hx228_0⟩ := Kd.at_int HR0.out x7_1 p228 q228
                            obtain rfl : ad227 = ad228 := (by injection e228)
                            replace hx228_0 := (HB.out.cell (World.block_lt_of_cell? w _ hx228_0)).trans hx228_0
                            replace p228 := eq_true p228
                            replace q228 := eq_true q228
                            have p229 : 0 ≤ (x7_1 : Int) := of_decide_eq_true (by first | (with_reducible assumption) | assumption)
                            have q229 : x7_1 < (l0.length : Int) := of_decide_eq_true (by first | (with_reducible assumption) | assumption)
                            obtain ⟨ad229, e229, hx229_0⟩ := Kd.at_int HR0.out x7_1 p229 q229
                            obtain rfl : ad227 = ad229 := (by injection e229)
                            replace hx229_0 := (HB.out.cell (World.block_lt_of_cell? w _ hx229_0)).trans hx229_0
                            replace p229 := eq_true p229
                            replace q229 := eq_true q229
                            have p230 : 0 ≤ (x7_1 : Int) := of_decide_eq_true (by first | (with_reducible assumption) | assumption)
                            have q230 : x7_1 < (l0.length : Int) := of_decide_eq_true (by first | (with_reducible assumption) | assumption)
                            obtain ⟨ad230, e230, hx230_0⟩ := Kd.at_int HR0.out x7_1 p230 q230
                            obtain rfl : ad227 = ad230 := (by injection e230)
                            replace hx230_0 := (HB.out.cell (World.block_lt_of_cell? w _ hx230_0)).trans hx230_0
                            replace p230 := eq_true p230
                            replace q230 := eq_true q230
                            obtain ⟨Ao86, co86, eo86⟩ := Kd.R_slice HO_4.out
                            subst eo86
                            go_wp2_with (first | ((with_reducible refine gate_builtin (b := .append) (xs := #[.tmp 70, .tmp 72]) rfl ?_); at_builtin; refine Kd.R_append (Kd.int .i64) (w0 := w) w.heap.size rfl (.tmp 70) (.tmp 72) 25 3 (.int .i64 0) 8 rfl Tryd.underlying25 info3 rfl (by decide) (by omega) (.slice Ao86 x4_1.length co86) x4_1 (wrap64 ((wrap64 (x5_1 * 128)) + (Int.tmod (wrap64 (rd l0 x7_1)) 128))) [.int .i64 (wrap64 ((wrap64 (x5_1 * 128)) + (Int.tmod (wrap64 (rd l0 x7_1)) 128)))] (fun _ => True) (fun _ => False) rfl rfl ?aP (fun _ hk => hk.elim) ?aF ?aO ?aB ?aS ?aL ?_; (case aP => exact rfl); (case aB => exact (by repeat (first | (with_reducible first | exact HB.out | apply below_alloc | apply pw_below_drewN | apply below_drew1) | exact HB.out))); (case aF => exact (fun _ _ => trivial)); (case aO => exact (by (with_reducible repeat (first | apply Kd.R_alloc | apply Kd.R_drewN | apply Kd.R_drew)); exact HO_4.out)); (case aS => exact (below_size (by repeat (first | (with_reducible first | exact HB.out | apply below_alloc | apply pw_below_drewN | apply below_drew1) | exact HB.out)))); (case aL => have := LMc81.out; omega); intro v238 w87 ho hb hg hat; rw [← Ny237.out] at ho; have n0_ := Aside0.mk (hb); have n1_ := Aside0.mk (ho); clear HB; clear HO_4; have HB := n0_; have HO239 := n1_; clear n0_ n1_; clear ho hb hg hat; obtain ⟨Ao88, co88, eo88⟩ := Kd.R_slice HO239.out; subst eo88))
                            go_roundg k1
                            case measure => have := HK1.out; omega
                            case rel => exact ⟨(y237), (0), (decide ((rd l0 x7_1) ≥ 128)), (wrap64 (x7_1 + 1)), (by first | rfl | (simp; done) | (simp [*]; done)), (by first | rfl | (simp; done) | (simp [*]; done)), (by first | rfl | (simp; done) | (simp [*]; done)), H', ⟨by have := HK1.out; omega⟩, ⟨by (with_reducible repeat (first | apply Kd.R_alloc | apply Kd.R_drewN | apply Kd.R_drew)); exact HO239.out⟩, ⟨by repeat (first | (with_reducible first | exact HB.out | apply below_alloc | apply pw_below_drewN | apply below_drew1) | exact HB.out)⟩⟩
                        · rw [if_neg c81] at H
                          exact absurd H (by simp)
                · rw [if_neg c62] at H
                  have c62b0 : (x5_1 == 72057594037927935) = false := beq_eq_false_iff_ne.mpr c62
                  have c62b1 : (x5_1 != 72057594037927935) = true := bne_iff_ne.mpr c62
                  by_cases c89 : (rd l0 x7_1) ≥ 128
                  · rw [if_pos c89] at H
                    have c89b0 : decide (128 ≤ (rd l0 x7_1)) = true := decide_eq_true c89
                    clear c89
                    have H' := Aside0.mk H
                    clear H
                    have p227 : 0 ≤ (x7_1 : Int) := of_decide_eq_true (by first | (with_reducible assumption) | assumption)
                    have q227 : x7_1 < (l0.length : Int) := of_decide_eq_true (by first | (with_reducible assumption) | assumption)
                    obtain ⟨ad227, e227, hx227_0⟩ := Kd.at_int HR0.out x7_1 p227 q227
                    cases e227
                    replace hx227_0 := (HB.out.cell (World.block_lt_of_cell? w _ hx227_0)).trans hx227_0
                    replace p227 := eq_true p227
                    replace q227 := eq_true q227
                    have p240 : 0 ≤ (x7_1 : Int) := of_decide_eq_true (by first | (with_reducible assumption) | assumption)
                    have q240 : x7_1 < (l0.length : Int) := of_decide_eq_true (by first | (with_reducible assumption) | assumption)
                    obtain ⟨ad240, e240, hx240_0⟩ := Kd.at_int HR0.out x7_1 p240 q240
                    obtain rfl : ad227 = ad240 := (by injection e240)
                    replace hx240_0 := (HB.out.cell (World.block_lt_of_cell? w _ hx240_0)).trans hx240_0
                    replace p240 := eq_true p240
                    replace q240 := eq_true q240
                    have p241 : 0 ≤ (x7_1 : Int) := of_decide_eq_true (by first | (with_reducible assumption) | assumption)
                    have q241 : x7_1 < (l0.length : Int) := of_decide_eq_true (by first | (with_reducible assumption) | assumption)
                    obtain ⟨ad241, e241, hx241_0⟩ := Kd.at_int HR0.out x7_1 p241 q241
                    obtain rfl : ad227 = ad241 := (by injection e241)
                    replace hx241_0 := (HB.out.cell (World.block_lt_of_cell? w _ hx241_0)).trans hx241_0
                    replace p241 := eq_true p241
                    replace q241 := eq_true q241
                    go_wp2
                    go_roundg k1
                    case measure => have := HK1.out; omega
                    case rel => exact ⟨(x4_1), (wrap64 ((wrap64 (x5_1 * 128)) + (Int.tmod (wrap64 (rd l0 x7_1)) 128))), (decide ((rd l0 x7_1) ≥ 128)), (wrap64 (x7_1 + 1)), (by first | rfl | (simp; done) | (simp [*]; done)), (by first | rfl | (simp; done) | (simp [*]; done)), (by first | rfl | (simp; done) | (simp [*]; done)), H', ⟨by have := HK1.out; omega⟩, ⟨by (with_reducible repeat (first | apply Kd.R_alloc | apply Kd.R_drewN | apply Kd.R_drew)); exact HO_4.out⟩, ⟨by repeat (first | (with_reducible first | exact HB.out | apply below_alloc | apply pw_below_drewN | apply below_drew1) | exact HB.out)⟩⟩
                  · rw [if_neg c89] at H
                    have c89b0 : decide (128 ≤ (rd l0 x7_1)) = false := decide_eq_false c89
                    clear c89
                    by_cases c90 : (x4_1.length : Int) = 0
                    · rw [if_pos c90] at H
                      have c90b0 : ((x4_1.length : Int) == 0) = true := beq_iff_eq.mpr c90
                      have c90b1 : ((x4_1.length : Int) != 0) = false := bne_eq_false_iff_eq.mpr c90
                      clear c90
                      obtain ⟨ji91, hji91⟩ : ∃ j_ : Int, (mn (wrap64 (Int.tdiv (wrap64 ((wrap64 (x5_1 * 128)) + (Int.tmod (wrap64 (rd l0 x7_1)) 128))) 40)) 2) = j_ := ⟨_, rfl⟩
                      replace H : ((some (([ji91, wrap64 ((wrap64 ((wrap64 (x5_1 * 128)) + (Int.tmod (wrap64 (rd l0 x7_1)) 128))) - (wrap64 (40 * (ji91))))] : List Int) : List Int)).bind fun y242 => (if x4_1.length + y242.length < 17592186044416 then ((some (x4_1 ++ y242 : List Int)).bind fun y245 => (if (y245.length : Int) > 40 then (some (([] : List Int), false)) else (sobriquetref01_ReadOid.l0 k1 l0 y245 0 (decide ((rd l0 x7_1) ≥ 128)) (wrap64 (x7_1 + 1))))) else (none))) = some (r1, r2) := by first | (rw [hji91] at H; exact H) | (simp only [hji91] at H ⊢; exact H)
                      have hji91_ : (if 2 < (wrap64 (Int.tdiv (wrap64 ((wrap64 (x5_1 * 128)) + (Int.tmod (wrap64 (rd l0 x7_1)) 128))) 40)) then 2 else (wrap64 (Int.tdiv (wrap64 ((wrap64 (x5_1 * 128)) + (Int.tmod (wrap64 (rd l0 x7_1)) 128))) 40))) = ji91 := hji91
                      obtain ⟨y242, hy242⟩ : ∃ y_ : List Int, y_ = (([ji91, wrap64 ((wrap64 ((wrap64 (x5_1 * 128)) + (Int.tmod (wrap64 (rd l0 x7_1)) 128))) - (wrap64 (40 * (ji91))))] : List Int)) := ⟨_, rfl⟩
                      replace H : (if x4_1.length + y242.length < 17592186044416 then ((some (x4_1 ++ y242 : List Int)).bind fun y245 => (if (y245.length : Int) > 40 then (some (([] : List Int), false)) else (sobriquetref01_ReadOid.l0 k1 l0 y245 0 (decide ((rd l0 x7_1) ≥ 128)) (wrap64 (x7_1 + 1))))) else (none)) = some (r1, r2) := by first | (rw [hy242]; with_reducible exact H) | (have H2_ := (Option.bind_some _ _).symm.trans H; rw [hy242]; with_reducible exact H2_) | (have H2_ := (Option.bind_some _ _).symm.trans H; with_reducible exact H2_) | with_reducible exact H | (rw [hy242]; exact H) | exact H
                      have Ny242 := Aside0.mk hy242
                      clear hy242
                      by_cases c92 : x4_1.length + y242.length < 17592186044416
                      · rw [if_pos c92] at H
                        have LMc92 := Aside0.mk c92
                        clear c92
                        obtain ⟨y245, hy245⟩ : ∃ y_ : List Int, y_ = (x4_1 ++ y242) := ⟨_, rfl⟩
                        replace H : (if (y245.length : Int) > 40 then (some (([] : List Int), false)) else (sobriquetref01_ReadOid.l0 k1 l0 y245 0 (decide ((rd l0 x7_1) ≥ 128)) (wrap64 (x7_1 + 1)))) = some (r1, r2) := by first | (rw [hy245]; with_reducible exact H) | (have H2_ := (Option.bind_some _ _).symm.trans H; rw [hy245]; with_reducible exact H2_) | (have H2_ := (Option.bind_some _ _).symm.trans H; with_reducible exact H2_) | with_reducible exact H | (rw [hy245]; exact H) | exact H
                        have Ny245 := Aside0.mk hy245
                        clear hy245
                        by_cases c93 : (y245.length : Int) > 40
                        · rw [if_pos c93] at H
                          have c93b0 : decide (40 < (y245.length : Int)) = true := decide_eq_true c93
                          have c93b1 : decide (40 < y245.length) = true := decide_eq_true (by omega)
                          clear c93
                          simp only [Option.some.injEq, Prod.mk.injEq] at H
                          obtain ⟨rfl, rfl⟩ := H
                          have p227 : 0 ≤ (x7_1 : Int) := of_decide_eq_true (by first | (with_reducible assumption) | assumption)
                          have q227 : x7_1 < (l0.length : Int) := of_decide_eq_true (by first | (with_reducible assumption) | assumption)
                          obtain ⟨ad227, e227, hx227_0⟩ := Kd.at_int HR0.out x7_1 p227 q227
                          cases e227
                          replace hx227_0 := (HB.out.cell (World.block_lt_of_cell? w _ hx227_0)).trans hx227_0
                          replace p227 := eq_true p227
                          replace q227 := eq_true q227
                          have p240 : 0 ≤ (x7_1 : Int) := of_decide_eq_true (by first | (with_reducible assumption) | assumption)
                          have q240 : x7_1 < (l0.length : Int) := of_decide_eq_true (by first | (with_reducible assumption) | assumption)
                          obtain ⟨ad240, e240, hx240_0⟩ := Kd.at_int HR0.out x7_1 p240 q240
                          obtain rfl : ad227 = ad240 := (by injection e240)
                          replace hx240_0 := (HB.out.cell (World.block_lt_of_cell? w _ hx240_0)).trans hx240_0
                          replace p240 := eq_true p240
                          replace q240 := eq_true q240
                          have p241 : 0 ≤ (x7_1 : Int) := of_decide_eq_true (by first | (with_reducible assumption) | assumption)
                          have q241 : x7_1 < (l0.length : Int) := of_decide_eq_true (by first | (with_reducible assumption) | assumption)
                          obtain ⟨ad241, e241, hx241_0⟩ := Kd.at_int HR0.out x7_1 p241 q241
                          obtain rfl : ad227 = ad241 := (by injection e241)
                          replace hx241_0 := (HB.out.cell (World.block_lt_of_cell? w _ hx241_0)).trans hx241_0
                          replace p241 := eq_true p241
                          replace q241 := eq_true q241
                          obtain ⟨Ao94, co94, eo94⟩ := Kd.R_slice HO_4.out
                          subst eo94
                          go_wp2_with (first | ((with_reducible refine gate_dst (N := 68) rfl ?_); refine Kd.R_lit (Kd.int .i64) _ 3 ?hg (N := 68) ?hd (xs := ([ji91, wrap64 ((wrap64 ((wrap64 (x5_1 * 128)) + (Int.tmod (wrap64 (rd l0 x7_1)) 128))) - (wrap64 (40 * (ji91))))] : List Int)) (inner := [.int .i64 ji91, .int .i64 (wrap64 ((wrap64 ((wrap64 (x5_1 * 128)) + (Int.tmod (wrap64 (rd l0 x7_1)) 128))) - (wrap64 (40 * (ji91)))))]) (ok := fun _ => True) (okp := fun _ => True) ?hr ?hp (fun _ hk => hk) trivial (Below.refl _ _) (Nat.le_refl _) (by simp) ?_; (case hd => rfl); (case hg => rfl); (case hr => first | (go_simp; done) | (go_simp; rfl)); (case hp => exact (Reps.one (show Kd.M (Kd.int .i64) _ _ _ ji91 [.int .i64 ji91] from rfl) (Reps.one (show Kd.M (Kd.int .i64) _ _ _ (wrap64 ((wrap64 ((wrap64 (x5_1 * 128)) + (Int.tmod (wrap64 (rd l0 x7_1)) 128))) - (wrap64 (40 * (ji91))))) [.int .i64 (wrap64 ((wrap64 ((wrap64 (x5_1 * 128)) + (Int.tmod (wrap64 (rd l0 x7_1)) 128))) - (wrap64 (40 * (ji91)))))] from rfl) (Reps.none _ _)))); intro v243 w95 ho96 hb hg_ hnew_; clear hg_ hnew_; (first | rw [← Ny242.out] at ho96 | (simp only [Int.reduceToNat] at ho96; rw [← Ny242.out] at ho96)); have n0_ := Aside0.mk (Kd.R_elder' (by (with_reducible repeat (first | apply Kd.R_alloc | apply Kd.R_drewN | apply Kd.R_drew)); exact HO_4.out) (Kd.R_base ho96) hb); have n1_ := Aside0.mk (Kd.R_lower (Kd.R_new' ho96 (Kd.R_lt (by (with_reducible repeat (first | apply Kd.R_alloc | apply Kd.R_drewN | apply Kd.R_drew)); exact HO_4.out))) (below_size (by repeat (first | (with_reducible first | exact HB.out | apply below_alloc | apply pw_below_drewN | apply below_drew1) | exact HB.out)))); have n2_ := Aside0.mk (below_step (by repeat (first | (with_reducible first | exact HB.out | apply below_alloc | apply pw_below_drewN | apply below_drew1) | exact HB.out)) hb); clear HO_4; clear HB; have HO_4 := n0_; have HO244 := n1_; have HB := n2_; clear n0_ n1_ n2_; clear hb ho96; obtain ⟨Ao98, co98, eo98⟩ := Kd.R_slice HO244.out; subst eo98) | ((with_reducible refine gate_builtin (b := .append) (xs := #[.tmp 62, .tmp 68]) rfl ?_); at_builtin; refine Kd.R_append_rows (Kd.int .i64) (w0 := w) w.heap.size rfl (.tmp 62) (.tmp 68) 25 3 (.int .i64 0) 8 rfl Tryd.underlying25 info3 rfl (by decide) (by omega) (.slice Ao94 x4_1.length co94) x4_1 y242 _ _ _ (fun k_ => some k_ ≠ (.slice Ao98 y242.length co98 : Value).ownBlock) (fun _ => False) rfl rfl ?aO ?aR (fun _ _ h => h) (fun _ h => h.elim) ?aF ?aB ?aS ?aL ?_; (case aR => repeat (first | exact (Kd.R_reads' HO244.out).2.2 | (with_reducible refine Kd.C_alloc ?_ _) | (with_reducible refine Kd.C_drewN ?_ _) | (with_reducible refine Kd.C_drew ?_))); (case aB => exact (by repeat (first | (with_reducible first | exact HB.out | apply below_alloc | apply pw_below_drewN | apply below_drew1) | exact HB.out))); (case aF => exact (fun k_ hk => Kd.fresh' (Kd.R_lt (by (with_reducible repeat (first | apply Kd.R_alloc | apply Kd.R_drewN | apply Kd.R_drew)); exact HO244.out)) k_ hk)); (case aO => exact (by (with_reducible repeat (first | apply Kd.R_alloc | apply Kd.R_drewN | apply Kd.R_drew)); exact Kd.R_mono HO_4.out (fun _ hk => by first | exact hk.2 | trivial | exact hk))); (case aS => exact (below_size (by repeat (first | (with_reducible first | exact HB.out | apply below_alloc | apply pw_below_drewN | apply below_drew1) | exact HB.out)))); (case aL => have := LMc92.out; omega); intro v246 w97 ho hb hg hat; rw [← Ny245.out] at ho; have n0_ := Aside0.mk (Kd.R_after (ok := (fun _ => True)) (by (with_reducible repeat (first | apply Kd.R_alloc | apply Kd.R_drewN | apply Kd.R_drew)); exact HO244.out) hg hat); have n1_ := Aside0.mk (hb); have n2_ := Aside0.mk (ho); clear HO244; clear HB; clear HO_4; have HO244 := n0_; have HB := n1_; have HO247 := n2_; clear n0_ n1_ n2_; clear ho hb hg hat; obtain ⟨Ao99, co99, eo99⟩ := Kd.R_slice HO247.out; subst eo99))
                          go_ret2
                          exact ⟨_, by first | rfl | (simp [errW_none, errW_some] <;> rfl) | (simp only [← hji91]; first | rfl | (simp [errW_none, errW_some] <;> rfl)) | (simp [*, errW_none, errW_some] <;> rfl), by first | exact Kd.R_nil _ _ _ _ _ | exact Kd.N_nil _ _ _ _ _ | exact Kd.V_nil _ _ _ _ _ | exact Kd.Q_nil _ _ _ _ _ | exact Kd.S_nil _ _ _ _ _, by repeat (first | (with_reducible first | exact HB.out | apply below_alloc | apply pw_below_drewN | apply below_drew1) | exact HB.out)⟩
                        · rw [if_neg c93] at H
                          have c93b0 : decide (40 < (y245.length : Int)) = false := decide_eq_false c93
                          have c93b1 : decide (40 < y245.length) = false := decide_eq_false (by omega)
                          clear c93
                          have H' := Aside0.mk H
                          clear H
                          have p227 : 0 ≤ (x7_1 : Int) := of_decide_eq_true (by first | (with_reducible assumption) | assumption)
                          have q227 : x7_1 < (l0.length : Int) := of_decide_eq_true (by first | (with_reducible assumption) | assumption)
                          obtain ⟨ad227, e227, hx227_0⟩ := Kd.at_int HR0.out x7_1 p227 q227
                          cases e227
                          replace hx227_0 := (HB.out.cell (World.block_lt_of_cell? w _ hx227_0)).trans hx227_0
                          replace p227 := eq_true p227
                          replace q227 := eq_true q227
                          have p240 : 0 ≤ (x7_1 : Int) := of_decide_eq_true (by first | (with_reducible assumption) | assumption)
                          have q240 : x7_1 < (l0.length : Int) := of_decide_eq_true (by first | (with_reducible assumption) | assumption)
                          obtain ⟨ad240, e240, hx240_0⟩ := Kd.at_int HR0.out x7_1 p240 q240
                          obtain rfl : ad227 = ad240 := (by injection e240)
                          replace hx240_0 := (HB.out.cell (World.block_lt_of_cell? w _ hx240_0)).trans hx240_0
                          replace p240 := eq_true p240
                          replace q240 := eq_true q240
                          have p241 : 0 ≤ (x7_1 : Int) := of_decide_eq_true (by first | (with_reducible assumption) | assumption)
                          have q241 : x7_1 < (l0.length : Int) := of_decide_eq_true (by first | (with_reducible assumption) | assumption)
                          obtain ⟨ad241, e241, hx241_0⟩ := Kd.at_int HR0.out x7_1 p241 q241
                          obtain rfl : ad227 = ad241 := (by injection e241)
                          replace hx241_0 := (HB.out.cell (World.block_lt_of_cell? w _ hx241_0)).trans hx241_0
                          replace p241 := eq_true p241
                          replace q241 := eq_true q241
                          obtain ⟨Ao100, co100, eo100⟩ := Kd.R_slice HO_4.out
                          subst eo100
                          go_wp2_with (first | ((with_reducible refine gate_dst (N := 68) rfl ?_); refine Kd.R_lit (Kd.int .i64) _ 3 ?hg (N := 68) ?hd (xs := ([ji91, wrap64 ((wrap64 ((wrap64 (x5_1 * 128)) + (Int.tmod (wrap64 (rd l0 x7_1)) 128))) - (wrap64 (40 * (ji91))))] : List Int)) (inner := [.int .i64 ji91, .int .i64 (wrap64 ((wrap64 ((wrap64 (x5_1 * 128)) + (Int.tmod (wrap64 (rd l0 x7_1)) 128))) - (wrap64 (40 * (ji91)))))]) (ok := fun _ => True) (okp := fun _ => True) ?hr ?hp (fun _ hk => hk) trivial (Below.refl _ _) (Nat.le_refl _) (by simp) ?_; (case hd => rfl); (case hg => rfl); (case hr => first | (go_simp; done) | (go_simp; rfl)); (case hp => exact (Reps.one (show Kd.M (Kd.int .i64) _ _ _ ji91 [.int .i64 ji91] from rfl) (Reps.one (show Kd.M (Kd.int .i64) _ _ _ (wrap64 ((wrap64 ((wrap64 (x5_1 * 128)) + (Int.tmod (wrap64 (rd l0 x7_1)) 128))) - (wrap64 (40 * (ji91))))) [.int .i64 (wrap64 ((wrap64 ((wrap64 (x5_1 * 128)) + (Int.tmod (wrap64 (rd l0 x7_1)) 128))) - (wrap64 (40 * (ji91)))))] from rfl) (Reps.none _ _)))); intro v243 w101 ho102 hb hg_ hnew_; clear hg_ hnew_; (first | rw [← Ny242.out] at ho102 | (simp only [Int.reduceToNat] at ho102; rw [← Ny242.out] at ho102)); have n0_ := Aside0.mk (Kd.R_elder' (by (with_reducible repeat (first | apply Kd.R_alloc | apply Kd.R_drewN | apply Kd.R_drew)); exact HO_4.out) (Kd.R_base ho102) hb); have n1_ := Aside0.mk (Kd.R_lower (Kd.R_new' ho102 (Kd.R_lt (by (with_reducible repeat (first | apply Kd.R_alloc | apply Kd.R_drewN | apply Kd.R_drew)); exact HO_4.out))) (below_size (by repeat (first | (with_reducible first | exact HB.out | apply below_alloc | apply pw_below_drewN | apply below_drew1) | exact HB.out)))); have n2_ := Aside0.mk (below_step (by repeat (first | (with_reducible first | exact HB.out | apply below_alloc | apply pw_below_drewN | apply below_drew1) | exact HB.out)) hb); clear HO_4; clear HB; have HO_4 := n0_; have HO244 := n1_; have HB := n2_; clear n0_ n1_ n2_; clear hb ho102; obtain ⟨Ao104, co104, eo104⟩ := Kd.R_slice HO244.out; subst eo104) | ((with_reducible refine gate_builtin (b := .append) (xs := #[.tmp 62, .tmp 68]) rfl ?_); at_builtin; refine Kd.R_append_rows (Kd.int .i64) (w0 := w) w.heap.size rfl (.tmp 62) (.tmp 68) 25 3 (.int .i64 0) 8 rfl Tryd.underlying25 info3 rfl (by decide) (by omega) (.slice Ao100 x4_1.length co100) x4_1 y242 _ _ _ (fun k_ => some k_ ≠ (.slice Ao104 y242.length co104 : Value).ownBlock) (fun _ => False) rfl rfl ?aO ?aR (fun _ _ h => h) (fun _ h => h.elim) ?aF ?aB ?aS ?aL ?_; (case aR => repeat (first | exact (Kd.R_reads' HO244.out).2.2 | (with_reducible refine Kd.C_alloc ?_ _) | (with_reducible refine Kd.C_drewN ?_ _) | (with_reducible refine Kd.C_drew ?_))); (case aB => exact (by repeat (first | (with_reducible first | exact HB.out | apply below_alloc | apply pw_below_drewN | apply below_drew1) | exact HB.out))); (case aF => exact (fun k_ hk => Kd.fresh' (Kd.R_lt (by (with_reducible repeat (first | apply Kd.R_alloc | apply Kd.R_drewN | apply Kd.R_drew)); exact HO244.out)) k_ hk)); (case aO => exact (by (with_reducible repeat (first | apply Kd.R_alloc | apply Kd.R_drewN | apply Kd.R_drew)); exact Kd.R_mono HO_4.out (fun _ hk => by first | exact hk.2 | trivial | exact hk))); (case aS => exact (below_size (by repeat (first | (with_reducible first | exact HB.out | apply below_alloc | apply pw_below_drewN | apply below_drew1) | exact HB.out)))); (case aL => have := LMc92.out; omega); intro v246 w103 ho hb hg hat; rw [← Ny245.out] at ho; have n0_ := Aside0.mk (Kd.R_after (ok := (fun _ => True)) (by (with_reducible repeat (first | apply Kd.R_alloc | apply Kd.R_drewN | apply Kd.R_drew)); exact HO244.out) hg hat); have n1_ := Aside0.mk (hb); have n2_ := Aside0.mk (ho); clear HO244; clear HB; clear HO_4; have HO244 := n0_; have HB := n1_; have HO247 := n2_; clear n0_ n1_ n2_; clear ho hb hg hat; obtain ⟨Ao105, co105, eo105⟩ := Kd.R_slice HO247.out; subst eo105))
                          go_roundg k1
                          case measure => have := HK1.out; omega
                          case rel => exact ⟨(y245), (0), (decide ((rd l0 x7_1) ≥ 128)), (wrap64 (x7_1 + 1)), (by first | rfl | (simp; done) | (simp [*]; done)), (by first | rfl | (simp; done) | (simp [*]; done)), (by first | rfl | (simp; done) | (simp [*]; done)), H', ⟨by have := HK1.out; omega⟩, ⟨by (with_reducible repeat (first | apply Kd.R_alloc | apply Kd.R_drewN | apply Kd.R_drew)); exact Kd.R_mono HO247.out (fun _ hk => trivial)⟩, ⟨by repeat (first | (with_reducible first | exact HB.out | apply below_alloc | apply pw_below_drewN | apply below_drew1) | exact HB.out)⟩⟩
                      · rw [if_neg c92] at H
                        exact absurd H (by simp)
                    · rw [if_neg c90] at H
                      have c90b0 : ((x4_1.length : Int) == 0) = false := beq_eq_false_iff_ne.mpr c90
                      have c90b1 : ((x4_1.length : Int) != 0) = true := bne_iff_ne.mpr c90
                      have c90b2 : ¬ (x4_1 = []) := fun h_ => c90 (by rw [h_]; rfl)
                      by_cases c106 : x4_1.length < 17592186044416
                      · rw [if_pos c106] at H
                        have LMc106 := Aside0.mk c106
                        clear c106
                        obtain ⟨y248, hy248⟩ : ∃ y_ : List Int, y_ = (x4_1 ++ [wrap64 ((wrap64 (x5_1 * 128)) + (Int.tmod (wrap64 (rd l0 x7_1)) 128))]) := ⟨_, rfl⟩
                        replace H : (if (y248.length : Int) > 40 then (some (([] : List Int), false)) else (sobriquetref01_ReadOid.l0 k1 l0 y248 0 (decide ((rd l0 x7_1) ≥ 128)) (wrap64 (x7_1 + 1)))) = some (r1, r2) := by first | (rw [hy248]; with_reducible exact H) | (have H2_ := (Option.bind_some _ _).symm.trans H; rw [hy248]; with_reducible exact H2_) | (have H2_ := (Option.bind_some _ _).symm.trans H; with_reducible exact H2_) | with_reducible exact H | (rw [hy248]; exact H) | exact H
                        have Ny248 := Aside0.mk hy248
                        clear hy248
                        by_cases c107 : (y248.length : Int) > 40
                        · rw [if_pos c107] at H
                          have c107b0 : decide (40 < (y248.length : Int)) = true := decide_eq_true c107
                          have c107b1 : decide (40 < y248.length) = true := decide_eq_true (by omega)
                          clear c107
                          simp only [Option.some.injEq, Prod.mk.injEq] at H
                          obtain ⟨rfl, rfl⟩ := H
                          have p227 : 0 ≤ (x7_1 : Int) := of_decide_eq_true (by first | (with_reducible assumption) | assumption)
                          have q227 : x7_1 < (l0.length : Int) := of_decide_eq_true (by first | (with_reducible assumption) | assumption)
                          obtain ⟨ad227, e227, hx227_0⟩ := Kd.at_int HR0.out x7_1 p227 q227
                          cases e227
                          replace hx227_0 := (HB.out.cell (World.block_lt_of_cell? w _ hx227_0)).trans hx227_0
                          replace p227 := eq_true p227
                          replace q227 := eq_true q227
                          have p240 : 0 ≤ (x7_1 : Int) := of_decide_eq_true (by first | (with_reducible assumption) | assumption)
                          have q240 : x7_1 < (l0.length : Int) := of_decide_eq_true (by first | (with_reducible assumption) | assumption)
                          obtain ⟨ad240, e240, hx240_0⟩ := Kd.at_int HR0.out x7_1 p240 q240
                          obtain rfl : ad227 = ad240 := (by injection e240)
                          replace hx240_0 := (HB.out.cell (World.block_lt_of_cell? w _ hx240_0)).trans hx240_0
                          replace p240 := eq_true p240
                          replace q240 := eq_true q240
                          have p241 : 0 ≤ (x7_1 : Int) := of_decide_eq_true (by first | (with_reducible assumption) | assumption)
                          have q241 : x7_1 < (l0.length : Int) := of_decide_eq_true (by first | (with_reducible assumption) | assumption)
                          obtain ⟨ad241, e241, hx241_0⟩ := Kd.at_int HR0.out x7_1 p241 q241
                          obtain rfl : ad227 = ad241 := (by injection e241)
                          replace hx241_0 := (HB.out.cell (World.block_lt_of_cell? w _ hx241_0)).trans hx241_0
                          replace p241 := eq_true p241
                          replace q241 := eq_true q241
                          obtain ⟨Ao108, co108, eo108⟩ := Kd.R_slice HO_4.out
                          subst eo108
                          go_wp2_with (first | ((with_reducible refine gate_builtin (b := .append) (xs := #[.tmp 70, .tmp 72]) rfl ?_); at_builtin; refine Kd.R_append (Kd.int .i64) (w0 := w) w.heap.size rfl (.tmp 70) (.tmp 72) 25 3 (.int .i64 0) 8 rfl Tryd.underlying25 info3 rfl (by decide) (by omega) (.slice Ao108 x4_1.length co108) x4_1 (wrap64 ((wrap64 (x5_1 * 128)) + (Int.tmod (wrap64 (rd l0 x7_1)) 128))) [.int .i64 (wrap64 ((wrap64 (x5_1 * 128)) + (Int.tmod (wrap64 (rd l0 x7_1)) 128)))] (fun _ => True) (fun _ => False) rfl rfl ?aP (fun _ hk => hk.elim) ?aF ?aO ?aB ?aS ?aL ?_; (case aP => exact rfl); (case aB => exact (by repeat (first | (with_reducible first | exact HB.out | apply below_alloc | apply pw_below_drewN | apply below_drew1) | exact HB.out))); (case aF => exact (fun _ _ => trivial)); (case aO => exact (by (with_reducible repeat (first | apply Kd.R_alloc | apply Kd.R_drewN | apply Kd.R_drew)); exact HO_4.out)); (case aS => exact (below_size (by repeat (first | (with_reducible first | exact HB.out | apply below_alloc | apply pw_below_drewN | apply below_drew1) | exact HB.out)))); (case aL => have := LMc106.out; omega); intro v249 w109 ho hb hg hat; rw [← Ny248.out] at ho; have n0_ := Aside0.mk (hb); have n1_ := Aside0.mk (ho); clear HB; clear HO_4; have HB := n0_; have HO250 := n1_; clear n0_ n1_; clear ho hb hg hat; obtain ⟨Ao110, co110, eo110⟩ := Kd.R_slice HO250.out; subst eo110))
                          go_ret2
                          exact ⟨_, by first | rfl | (simp [errW_none, errW_some] <;> rfl) | (simp [*, errW_none, errW_some] <;> rfl), by first | exact Kd.R_nil _ _ _ _ _ | exact Kd.N_nil _ _ _ _ _ | exact Kd.V_nil _ _ _ _ _ | exact Kd.Q_nil _ _ _ _ _ | exact Kd.S_nil _ _ _ _ _, by repeat (first | (with_reducible first | exact HB.out | apply below_alloc | apply pw_below_drewN | apply below_drew1) | exact HB.out)⟩
                        · rw [if_neg c107] at H
                          have c107b0 : decide (40 < (y248.length : Int)) = false := decide_eq_false c107
                          have c107b1 : decide (40 < y248.length) = false := decide_eq_false (by omega)
                          clear c107
                          have H' := Aside0.mk H
                          clear H
                          have p227 : 0 ≤ (x7_1 : Int) := of_decide_eq_true (by first | (with_reducible assumption) | assumption)
                          have q227 : x7_1 < (l0.length : Int) := of_decide_eq_true (by first | (with_reducible assumption) | assumption)
                          obtain ⟨ad227, e227, hx227_0⟩ := Kd.at_int HR0.out x7_1 p227 q227
                          cases e227
                          replace hx227_0 := (HB.out.cell (World.block_lt_of_cell? w _ hx227_0)).trans hx227_0
                          replace p227 := eq_true p227
                          replace q227 := eq_true q227
                          have p240 : 0 ≤ (x7_1 : Int) := of_decide_eq_true (by first | (with_reducible assumption) | assumption)
                          have q240 : x7_1 < (l0.length : Int) := of_decide_eq_true (by first | (with_reducible assumption) | assumption)
                          obtain ⟨ad240, e240, hx240_0⟩ := Kd.at_int HR0.out x7_1 p240 q240
                          obtain rfl : ad227 = ad240 := (by injection e240)
                          replace hx240_0 := (HB.out.cell (World.block_lt_of_cell? w _ hx240_0)).trans hx240_0
                          replace p240 := eq_true p240
                          replace q240 := eq_true q240
                          have p241 : 0 ≤ (x7_1 : Int) := of_decide_eq_true (by first | (with_reducible assumption) | assumption)
                          have q241 : x7_1 < (l0.length : Int) := of_decide_eq_true (by first | (with_reducible assumption) | assumption)
                          obtain ⟨ad241, e241, hx241_0⟩ := Kd.at_int HR0.out x7_1 p241 q241
                          obtain rfl : ad227 = ad241 := (by injection e241)
                          replace hx241_0 := (HB.out.cell (World.block_lt_of_cell? w _ hx241_0)).trans hx241_0
                          replace p241 := eq_true p241
                          replace q241 := eq_true q241
                          obtain ⟨Ao111, co111, eo111⟩ := Kd.R_slice HO_4.out
                          subst eo111
                          go_wp2_with (first | ((with_reducible refine gate_builtin (b := .append) (xs := #[.tmp 70, .tmp 72]) rfl ?_); at_builtin; refine Kd.R_append (Kd.int .i64) (w0 := w) w.heap.size rfl (.tmp 70) (.tmp 72) 25 3 (.int .i64 0) 8 rfl Tryd.underlying25 info3 rfl (by decide) (by omega) (.slice Ao111 x4_1.length co111) x4_1 (wrap64 ((wrap64 (x5_1 * 128)) + (Int.tmod (wrap64 (rd l0 x7_1)) 128))) [.int .i64 (wrap64 ((wrap64 (x5_1 * 128)) + (Int.tmod (wrap64 (rd l0 x7_1)) 128)))] (fun _ => True) (fun _ => False) rfl rfl ?aP (fun _ hk => hk.elim) ?aF ?aO ?aB ?aS ?aL ?_; (case aP => exact rfl); (case aB => exact (by repeat (first | (with_reducible first | exact HB.out | apply below_alloc | apply pw_below_drewN | apply below_drew1) | exact HB.out))); (case aF => exact (fun _ _ => trivial)); (case aO => exact (by (with_reducible repeat (first | apply Kd.R_alloc | apply Kd.R_drewN | apply Kd.R_drew)); exact HO_4.out)); (case aS => exact (below_size (by repeat (first | (with_reducible first | exact HB.out | apply below_alloc | apply pw_below_drewN | apply below_drew1) | exact HB.out)))); (case aL => have := LMc106.out; omega); intro v249 w112 ho hb hg hat; rw [← Ny248.out] at ho; have n0_ := Aside0.mk (hb); have n1_ := Aside0.mk (ho); clear HB; clear HO_4; have HB := n0_; have HO250 := n1_; clear n0_ n1_; clear ho hb hg hat; obtain ⟨Ao113, co113, eo113⟩ := Kd.R_slice HO250.out; subst eo113))
                          go_roundg k1
                          case measure => have := HK1.out; omega
                          case rel => exact ⟨(y248), (0), (decide ((rd l0 x7_1) ≥ 128)), (wrap64 (x7_1 + 1)), (by first | rfl | (simp; done) | (simp [*]; done)), (by first | rfl | (simp; done) | (simp [*]; done)), (by first | rfl | (simp; done) | (simp [*]; done)), H', ⟨by have := HK1.out; omega⟩, ⟨by (with_reducible repeat (first | apply Kd.R_alloc | apply Kd.R_drewN | apply Kd.R_drew)); exact HO250.out⟩, ⟨by repeat (first | (with_reducible first | exact HB.out | apply below_alloc | apply pw_below_drewN | apply below_drew1) | exact HB.out)⟩⟩
                      · rw [if_neg c106] at H
                        exact absurd H (by simp)
          · rw [if_neg c59] at H
            exact absurd H (by simp)
      · rw [if_neg c2] at H
        have c2b0 : decide (x7_1 < (l0.length : Int)) = false := decide_eq_false c2
        clear c2
        by_cases c114 : x6_1 = true
        · subst c114
          have H1 : (some (([] : List Int), false)) = some (r1, r2) := by rw [if_pos rfl] at H; exact H
          clear H
          have H := H1
          clear H1
          simp only [Option.some.injEq, Prod.mk.injEq] at H
          obtain ⟨rfl, rfl⟩ := H
          go_wp2
          go_ret2
          exact ⟨_, by first | rfl | (simp [errW_none, errW_some] <;> rfl) | (simp [*, errW_none, errW_some] <;> rfl), by first | exact Kd.R_nil _ _ _ _ _ | exact Kd.N_nil _ _ _ _ _ | exact Kd.V_nil _ _ _ _ _ | exact Kd.Q_nil _ _ _ _ _ | exact Kd.S_nil _ _ _ _ _, by repeat (first | (with_reducible first | exact HB.out | apply below_alloc | apply pw_below_drewN | apply below_drew1) | exact HB.out)⟩
        · replace c114 := Bool.eq_false_iff.mpr c114
          subst c114
          have H1 : ((sobriquetref01_Oid.f k1 x4_1).bind fun t251 => (if t251 = true then (some (x4_1, true)) else (some (([] : List Int), false)))) = some (r1, r2) := by rw [if_neg (show ¬ (false = true) by decide)] at H; exact H
          clear H
          have H := H1
          clear H1
          replace H := Option.bind_eq_some_iff.mp H
          obtain ⟨t251, A1150, H⟩ := H
          replace H : (if t251 = true then (some (x4_1, true)) else (some (([] : List Int), false))) = some (r1, r2) := H
          have A115 := Aside0.mk A1150
          clear A1150
          by_cases c116 : t251 = true
          · subst c116
            have H1 : (some (x4_1, true)) = some (r1, r2) := by rw [if_pos rfl] at H; exact H
            clear H
            have H := H1
            clear H1
            simp only [Option.some.injEq, Prod.mk.injEq] at H
            obtain ⟨rfl, rfl⟩ := H
            obtain ⟨Ao117, co117, eo117⟩ := Kd.R_slice HO_4.out
            subst eo117
            go_wp2_with (first | (go_at_call 17; (with_reducible refine (sobriquetref01_Oid.calls k1 _ _ x4_1 true _ ?side1 ?side2 A115.out).mono ?_); (case side1 => repeat (first | exact (Kd.R_reads' HO_4.out).2.2 | (with_reducible refine Kd.C_alloc ?_ _) | (with_reducible refine Kd.C_drewN ?_ _) | (with_reducible refine Kd.C_drew ?_))); (case side2 => exact (Kd.R_reads' HO_4.out).2.1); rintro e w' ⟨rfl, ⟨nd, rfl⟩⟩))
            go_ret2
            exact ⟨_, by first | rfl | (simp [errW_none, errW_some] <;> rfl) | (simp [*, errW_none, errW_some] <;> rfl), by (with_reducible repeat (first | apply Kd.R_alloc | apply Kd.R_drewN | apply Kd.R_drew)); exact HO_4.out, by repeat (first | (with_reducible first | exact HB.out | apply below_alloc | apply pw_below_drewN | apply below_drew1) | exact HB.out)⟩
          · replace c116 := Bool.eq_false_iff.mpr c116
            subst c116
            have H1 : (some (([] : List Int), false)) = some (r1, r2) := by rw [if_neg (show ¬ (false = true) by decide)] at H; exact H
            clear H
            have H := H1
            clear H1
            simp only [Option.some.injEq, Prod.mk.injEq] at H
            obtain ⟨rfl, rfl⟩ := H
            obtain ⟨Ao118, co118, eo118⟩ := Kd.R_slice HO_4.out
            subst eo118
            go_wp2_with (first | (go_at_call 17; (with_reducible refine (sobriquetref01_Oid.calls k1 _ _ x4_1 false _ ?side1 ?side2 A115.out).mono ?_); (case side1 => repeat (first | exact (Kd.R_reads' HO_4.out).2.2 | (with_reducible refine Kd.C_alloc ?_ _) | (with_reducible refine Kd.C_drewN ?_ _) | (with_reducible refine Kd.C_drew ?_))); (case side2 => exact (Kd.R_reads' HO_4.out).2.1); rintro e w' ⟨rfl, ⟨nd, rfl⟩⟩))
            go_ret2
            exact ⟨_, by first | rfl | (simp [errW_none, errW_some] <;> rfl) | (simp [*, errW_none, errW_some] <;> rfl), by first | exact Kd.R_nil _ _ _ _ _ | exact Kd.N_nil _ _ _ _ _ | exact Kd.V_nil _ _ _ _ _ | exact Kd.Q_nil _ _ _ _ _ | exact Kd.S_nil _ _ _ _ _, by repeat (first | (with_reducible first | exact HB.out | apply below_alloc | apply pw_below_drewN | apply below_drew1) | exact HB.out)⟩

end Go.Proofs.YtdnclldebkpkfaaDoor.MOidExact
