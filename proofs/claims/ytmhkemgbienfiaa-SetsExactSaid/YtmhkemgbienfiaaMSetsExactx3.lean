-- Written by a program of this session over the translation; checked by Lean alone.
import Derived.Test.YtmhkemgbienfiaaSE0
import Derived.Test.YtmhkemgbienfiaaMSetsExactx0
import Derived.Test.YtmhkemgbienfiaaMSetsExactx1
import Derived.Test.YtmhkemgbienfiaaMSetsExactx2
namespace Go.Proofs.Ytmhkemgbienfiaa.MSetsExact
open Go.Proofs.Ytmhkemgbienfiaa Go.RowKit Go.Proofs.YtmhkemgbienfiaaW.PrintWords Go.Proofs.YtmhkemgbienfiaaW.PrintLast Go.Proofs.YtmhkemgbienfiaaW.PrintMore
attribute [local go_sem] max2_int min2_int max_two min_two max_three min_three max_four min_four   -- for this text's walks alone
set_option linter.unusedVariables false
set_option linter.unusedSimpArgs false
set_option linter.unnecessarySimpa false

/-! ### sobriquetkeep_Rows: function 19 -/
def sobriquetkeep_Rows.l0 : Nat → List (List Int) → List (List Int) → Int → Option (Bool)
  | 0, _, _, _ => none
  | k + 1, x0, x1, x5 => if x5 < (x0.length : Int) then (if 0 ≤ x5 then (if x5 < (x1.length : Int) then ((sobriquetkeep_Bytes.f k (rd_L1 x0 x5) (rd_L1 x1 x5)).bind fun t166 => (if t166 = true then (sobriquetkeep_Rows.l0 k x0 x1 (wrap64 (x5 + 1))) else (some false))) else (none)) else (none)) else (some true)
def sobriquetkeep_Rows.f (k : Nat) (l0 : List (List Int)) (l1 : List (List Int)) : Option (Bool) := if (l0.length : Int) = (l1.length : Int) then (sobriquetkeep_Rows.l0 k l0 l1 0) else (some false)
theorem sobriquetkeep_Rows.mono_l : ∀ k, (∀ y0 y1 y2, LeO (sobriquetkeep_Rows.l0 k y0 y1 y2) (sobriquetkeep_Rows.l0 (k + 1) y0 y1 y2))
  | 0 => fun _ _ _ r h => by simp [sobriquetkeep_Rows.l0] at h
  | k + 1 => by
    have ih0 := sobriquetkeep_Rows.mono_l k
    · intro y0 y1 y2
      unfold sobriquetkeep_Rows.l0
      repeat' first
      | (with_reducible exact ih0 _ _ _)
      | (with_reducible exact sobriquetkeep_Bytes.mono _ _ _)
      | (with_reducible exact LeO.refl _)
      | (with_reducible exact LeO.none _)
      | (with_reducible refine LeO.ite ?_ ?_)
      | (with_reducible refine LeO.bind ?_ (fun _ => ?_))
      | exact ih0 _ _ _
      | exact sobriquetkeep_Bytes.mono _ _ _
      | exact LeO.none _
      | refine LeO.ite ?_ ?_
      | refine LeO.bind ?_ (fun _ => ?_)
theorem sobriquetkeep_Rows.mono : ∀ a0 a1 k, LeO (sobriquetkeep_Rows.f k a0 a1) (sobriquetkeep_Rows.f (k + 1) a0 a1) := by
  intro a0 a1 k
  have ih0 := sobriquetkeep_Rows.mono_l k
  unfold sobriquetkeep_Rows.f
  repeat' first
      | (with_reducible exact ih0 _ _ _)
      | (with_reducible exact sobriquetkeep_Bytes.mono _ _ _)
      | (with_reducible exact LeO.refl _)
      | (with_reducible exact LeO.none _)
      | (with_reducible refine LeO.ite ?_ ?_)
      | (with_reducible refine LeO.bind ?_ (fun _ => ?_))
      | exact ih0 _ _ _
      | exact sobriquetkeep_Bytes.mono _ _ _
      | exact LeO.none _
      | refine LeO.ite ?_ ?_
      | refine LeO.bind ?_ (fun _ => ?_)
set_option maxHeartbeats 8000000 in
set_option maxRecDepth 100000 in
theorem sobriquetkeep_Rows.calls (k : Nat) (A0 : Option Addr) (c0 : Nat) (l0 : List (List Int)) (A1 : Option Addr) (c1 : Nat) (l1 : List (List Int)) (r : Bool) (w : World) (hr0 : Kd.C (Kd.slice 5 (Kd.int .u8)) w A0 l0.length l0) (hc0 : l0.length ≤ c0) (hr1 : Kd.C (Kd.slice 5 (Kd.int .u8)) w A1 l1.length l1) (hc1 : l1.length ≤ c1) (h : sobriquetkeep_Rows.f k l0 l1 = some r) :
    Calls Try.prog 19 #[.slice A0 l0.length c0, .slice A1 l1.length c1] w fun e w' => e = .returned (.bool r) ∧ Drawn0 w w' := by
  have HR0 := Aside0.mk hr0
  have HC0 := Aside0.mk hc0
  clear hr0 hc0
  have HR1 := Aside0.mk hr1
  have HC1 := Aside0.mk hc1
  clear hr1 hc1
  have H : (if (l0.length : Int) = (l1.length : Int) then (sobriquetkeep_Rows.l0 k l0 l1 0) else (some false)) = some r := h
  clear h
  by_cases c3 : (l0.length : Int) = (l1.length : Int)
  · rw [if_pos c3] at H
    have c3b0 : ((l0.length : Int) == (l1.length : Int)) = true := beq_iff_eq.mpr c3
    have c3b1 : ((l0.length : Int) != (l1.length : Int)) = false := bne_eq_false_iff_eq.mpr c3
    have c3b2 : (l0.length == l1.length) = true := by first | simpa using c3 | (simp at c3 ⊢; omega)
    clear c3
    have H' := Aside0.mk H
    clear H
    go_enter Try.func19, Try.ntmps19
    go_wp2
    repeat (go_quiet (fail); try go_wp2)
    go_loopg [5] k (fun kq v5 w' => ∃ (x5_1 : Int), v5 = .int .i64 x5_1 ∧ Aside0 (sobriquetkeep_Rows.l0 kq l0 l1 x5_1 = some r) ∧ Aside0 (kq ≤ k) ∧ Drawn0 w w')
    case atStart => exact ⟨(0), (by first | rfl | (simp; done) | (simp [*]; done)), H', ⟨Nat.le_refl _⟩, by repeat (first | exact Drawn0.refl _ | apply Drawn0.step)⟩
    case round =>
      clear H'
      try clear c1
      try clear p2
      try clear c3
      try clear c3b0
      try clear c3b1
      try clear c3b2
      obtain ⟨x5_1, rfl, HA, HK1, ⟨m1, rfl⟩⟩ := hrel
      cases gk with
      | zero => exact absurd HA.out (by simp [sobriquetkeep_Rows.l0])
      | succ k1 =>
        have H := HA.out
        clear HA
        simp only [sobriquetkeep_Rows.l0] at H
        by_cases c4 : x5_1 < (l0.length : Int)
        · rw [if_pos c4] at H
          have c4b0 : decide (x5_1 < (l0.length : Int)) = true := decide_eq_true c4
          clear c4
          by_cases c5 : 0 ≤ x5_1
          · rw [if_pos c5] at H
            have c5b0 : decide (0 ≤ x5_1) = true := decide_eq_true c5
            clear c5
            by_cases c6 : x5_1 < (l1.length : Int)
            · rw [if_pos c6] at H
              have c6b0 : decide (x5_1 < (l1.length : Int)) = true := decide_eq_true c6
              clear c6
              replace H := Option.bind_eq_some_iff.mp H
              obtain ⟨t166, A70, H⟩ := H
              replace H : (if t166 = true then (sobriquetkeep_Rows.l0 k1 l0 l1 (wrap64 (x5_1 + 1))) else (some false)) = some r := H
              have A7 := Aside0.mk A70
              clear A70
              by_cases c8 : t166 = true
              · subst c8
                have H1 : (sobriquetkeep_Rows.l0 k1 l0 l1 (wrap64 (x5_1 + 1))) = some r := by rw [if_pos rfl] at H; exact H
                clear H
                have H := H1
                clear H1
                have H' := Aside0.mk H
                clear H
                have p164 : 0 ≤ (x5_1 : Int) := of_decide_eq_true (by first | (with_reducible assumption) | assumption)
                have q164 : x5_1 < (l0.length : Int) := of_decide_eq_true (by first | (with_reducible assumption) | assumption)
                obtain ⟨ad164, A164_0, c164_0, e164, hx164_0, hl164_0, hi164_0⟩ := at_L1 HR0.out x5_1 p164 q164
                cases e164
                have HR164_0 := Aside0.mk hi164_0
                have HC164_0 := Aside0.mk hl164_0
                clear hi164_0 hl164_0
                replace p164 := eq_true p164
                replace q164 := eq_true q164
                have p165 : 0 ≤ (x5_1 : Int) := of_decide_eq_true (by first | (with_reducible assumption) | assumption)
                have q165 : x5_1 < (l1.length : Int) := of_decide_eq_true (by first | (with_reducible assumption) | assumption)
                obtain ⟨ad165, A165_0, c165_0, e165, hx165_0, hl165_0, hi165_0⟩ := at_L1 HR1.out x5_1 p165 q165
                cases e165
                have HR165_0 := Aside0.mk hi165_0
                have HC165_0 := Aside0.mk hl165_0
                clear hi165_0 hl165_0
                replace p165 := eq_true p165
                replace q165 := eq_true q165
                go_wp2_with (first | (go_at_call 17; (with_reducible refine (sobriquetkeep_Bytes.calls k1 _ _ (rd_L1 l0 x5_1) _ _ (rd_L1 l1 x5_1) true _ ?side1 ?side2 ?side3 ?side4 A7.out).mono ?_); (case side1 => repeat (first | exact HR164_0.out | (with_reducible refine Kd.C_alloc ?_ _) | (with_reducible refine Kd.C_drewN ?_ _) | (with_reducible refine Kd.C_drew ?_))); (case side2 => exact HC164_0.out); (case side3 => repeat (first | exact HR165_0.out | (with_reducible refine Kd.C_alloc ?_ _) | (with_reducible refine Kd.C_drewN ?_ _) | (with_reducible refine Kd.C_drew ?_))); (case side4 => exact HC165_0.out); rintro e w' ⟨rfl, ⟨nd, rfl⟩⟩; (try first | exact ⟨rfl, _, World.drewN_drewN _ _ _⟩ | exact ⟨rfl, _, Eq.trans (World.drewN_drewN _ _ _) (congrArg (World.drewN _) (Nat.add_assoc _ _ _))⟩)))
                repeat (go_quiet (first | (go_at_call 17; (with_reducible refine (sobriquetkeep_Bytes.calls k1 _ _ (rd_L1 l0 x5_1) _ _ (rd_L1 l1 x5_1) true _ ?side1 ?side2 ?side3 ?side4 A7.out).mono ?_); (case side1 => repeat (first | exact HR164_0.out | (with_reducible refine Kd.C_alloc ?_ _) | (with_reducible refine Kd.C_drewN ?_ _) | (with_reducible refine Kd.C_drew ?_))); (case side2 => exact HC164_0.out); (case side3 => repeat (first | exact HR165_0.out | (with_reducible refine Kd.C_alloc ?_ _) | (with_reducible refine Kd.C_drewN ?_ _) | (with_reducible refine Kd.C_drew ?_))); (case side4 => exact HC165_0.out); rintro e w' ⟨rfl, ⟨nd, rfl⟩⟩; (try first | exact ⟨rfl, _, World.drewN_drewN _ _ _⟩ | exact ⟨rfl, _, Eq.trans (World.drewN_drewN _ _ _) (congrArg (World.drewN _) (Nat.add_assoc _ _ _))⟩))); try go_wp2_with (first | (go_at_call 17; (with_reducible refine (sobriquetkeep_Bytes.calls k1 _ _ (rd_L1 l0 x5_1) _ _ (rd_L1 l1 x5_1) true _ ?side1 ?side2 ?side3 ?side4 A7.out).mono ?_); (case side1 => repeat (first | exact HR164_0.out | (with_reducible refine Kd.C_alloc ?_ _) | (with_reducible refine Kd.C_drewN ?_ _) | (with_reducible refine Kd.C_drew ?_))); (case side2 => exact HC164_0.out); (case side3 => repeat (first | exact HR165_0.out | (with_reducible refine Kd.C_alloc ?_ _) | (with_reducible refine Kd.C_drewN ?_ _) | (with_reducible refine Kd.C_drew ?_))); (case side4 => exact HC165_0.out); rintro e w' ⟨rfl, ⟨nd, rfl⟩⟩; (try first | exact ⟨rfl, _, World.drewN_drewN _ _ _⟩ | exact ⟨rfl, _, Eq.trans (World.drewN_drewN _ _ _) (congrArg (World.drewN _) (Nat.add_assoc _ _ _))⟩))))
                go_roundg k1
                case measure => have := HK1.out; omega
                case rel => exact ⟨(wrap64 (x5_1 + 1)), (by first | rfl | (simp; done) | (simp [*]; done)), H', ⟨by have := HK1.out; omega⟩, by repeat (first | exact Drawn0.refl _ | apply Drawn0.step)⟩
              · replace c8 := Bool.eq_false_iff.mpr c8
                subst c8
                have H1 : (some false) = some r := by rw [if_neg (show ¬ (false = true) by decide)] at H; exact H
                clear H
                have H := H1
                clear H1
                obtain rfl := Option.some.inj H
                have p164 : 0 ≤ (x5_1 : Int) := of_decide_eq_true (by first | (with_reducible assumption) | assumption)
                have q164 : x5_1 < (l0.length : Int) := of_decide_eq_true (by first | (with_reducible assumption) | assumption)
                obtain ⟨ad164, A164_0, c164_0, e164, hx164_0, hl164_0, hi164_0⟩ := at_L1 HR0.out x5_1 p164 q164
                cases e164
                have HR164_0 := Aside0.mk hi164_0
                have HC164_0 := Aside0.mk hl164_0
                clear hi164_0 hl164_0
                replace p164 := eq_true p164
                replace q164 := eq_true q164
                have p165 : 0 ≤ (x5_1 : Int) := of_decide_eq_true (by first | (with_reducible assumption) | assumption)
                have q165 : x5_1 < (l1.length : Int) := of_decide_eq_true (by first | (with_reducible assumption) | assumption)
                obtain ⟨ad165, A165_0, c165_0, e165, hx165_0, hl165_0, hi165_0⟩ := at_L1 HR1.out x5_1 p165 q165
                cases e165
                have HR165_0 := Aside0.mk hi165_0
                have HC165_0 := Aside0.mk hl165_0
                clear hi165_0 hl165_0
                replace p165 := eq_true p165
                replace q165 := eq_true q165
                go_wp2_with (first | (go_at_call 17; (with_reducible refine (sobriquetkeep_Bytes.calls k1 _ _ (rd_L1 l0 x5_1) _ _ (rd_L1 l1 x5_1) false _ ?side1 ?side2 ?side3 ?side4 A7.out).mono ?_); (case side1 => repeat (first | exact HR164_0.out | (with_reducible refine Kd.C_alloc ?_ _) | (with_reducible refine Kd.C_drewN ?_ _) | (with_reducible refine Kd.C_drew ?_))); (case side2 => exact HC164_0.out); (case side3 => repeat (first | exact HR165_0.out | (with_reducible refine Kd.C_alloc ?_ _) | (with_reducible refine Kd.C_drewN ?_ _) | (with_reducible refine Kd.C_drew ?_))); (case side4 => exact HC165_0.out); rintro e w' ⟨rfl, ⟨nd, rfl⟩⟩; (try first | exact ⟨rfl, _, World.drewN_drewN _ _ _⟩ | exact ⟨rfl, _, Eq.trans (World.drewN_drewN _ _ _) (congrArg (World.drewN _) (Nat.add_assoc _ _ _))⟩)))
                repeat (go_quiet (first | (go_at_call 17; (with_reducible refine (sobriquetkeep_Bytes.calls k1 _ _ (rd_L1 l0 x5_1) _ _ (rd_L1 l1 x5_1) false _ ?side1 ?side2 ?side3 ?side4 A7.out).mono ?_); (case side1 => repeat (first | exact HR164_0.out | (with_reducible refine Kd.C_alloc ?_ _) | (with_reducible refine Kd.C_drewN ?_ _) | (with_reducible refine Kd.C_drew ?_))); (case side2 => exact HC164_0.out); (case side3 => repeat (first | exact HR165_0.out | (with_reducible refine Kd.C_alloc ?_ _) | (with_reducible refine Kd.C_drewN ?_ _) | (with_reducible refine Kd.C_drew ?_))); (case side4 => exact HC165_0.out); rintro e w' ⟨rfl, ⟨nd, rfl⟩⟩; (try first | exact ⟨rfl, _, World.drewN_drewN _ _ _⟩ | exact ⟨rfl, _, Eq.trans (World.drewN_drewN _ _ _) (congrArg (World.drewN _) (Nat.add_assoc _ _ _))⟩))); try go_wp2_with (first | (go_at_call 17; (with_reducible refine (sobriquetkeep_Bytes.calls k1 _ _ (rd_L1 l0 x5_1) _ _ (rd_L1 l1 x5_1) false _ ?side1 ?side2 ?side3 ?side4 A7.out).mono ?_); (case side1 => repeat (first | exact HR164_0.out | (with_reducible refine Kd.C_alloc ?_ _) | (with_reducible refine Kd.C_drewN ?_ _) | (with_reducible refine Kd.C_drew ?_))); (case side2 => exact HC164_0.out); (case side3 => repeat (first | exact HR165_0.out | (with_reducible refine Kd.C_alloc ?_ _) | (with_reducible refine Kd.C_drewN ?_ _) | (with_reducible refine Kd.C_drew ?_))); (case side4 => exact HC165_0.out); rintro e w' ⟨rfl, ⟨nd, rfl⟩⟩; (try first | exact ⟨rfl, _, World.drewN_drewN _ _ _⟩ | exact ⟨rfl, _, Eq.trans (World.drewN_drewN _ _ _) (congrArg (World.drewN _) (Nat.add_assoc _ _ _))⟩))))
                go_ret
                exact ⟨by first | rfl | (simp; done) | (simp [*]; done), by repeat (first | exact Drawn0.refl _ | apply Drawn0.step)⟩
            · rw [if_neg c6] at H
              exact absurd H (by simp)
          · rw [if_neg c5] at H
            exact absurd H (by simp)
        · rw [if_neg c4] at H
          have c4b0 : decide (x5_1 < (l0.length : Int)) = false := decide_eq_false c4
          clear c4
          obtain rfl := Option.some.inj H
          go_wp2
          repeat (go_quiet (fail); try go_wp2)
          go_ret
          exact ⟨by first | rfl | (simp; done) | (simp [*]; done), by repeat (first | exact Drawn0.refl _ | apply Drawn0.step)⟩
  · rw [if_neg c3] at H
    have c3b0 : ((l0.length : Int) == (l1.length : Int)) = false := beq_eq_false_iff_ne.mpr c3
    have c3b1 : ((l0.length : Int) != (l1.length : Int)) = true := bne_iff_ne.mpr c3
    have c3b2 : (l0.length == l1.length) = false := by first | simpa using c3 | (simp at c3 ⊢; omega)
    obtain rfl := Option.some.inj H
    go_enter Try.func19, Try.ntmps19
    go_wp2
    repeat (go_quiet (fail); try go_wp2)
    go_ret
    exact ⟨by first | rfl | (simp; done) | (simp [*]; done), by repeat (first | exact Drawn0.refl _ | apply Drawn0.step)⟩

/-! ### sobriquetlaw04_wakes: function 20 -/
def sobriquetlaw04_wakes.f : Nat → Option Bool := Go.Proofs.Ytmhkemgbienfiaa.Base.sobriquetlaw04_wakes.f
theorem sobriquetlaw04_wakes.mono : ∀ k, LeO (sobriquetlaw04_wakes.f k) (sobriquetlaw04_wakes.f (k + 1)) := Go.Proofs.Ytmhkemgbienfiaa.Base.sobriquetlaw04_wakes.mono
theorem sobriquetlaw04_wakes.calls (k : Nat) (r : Bool) (w : World) (h : sobriquetlaw04_wakes.f k = some r) (hrt0 : r = true) :
    Calls Try.prog 20 #[] w fun e w' => e = .returned (.bool r) ∧ Below w.heap.size w w' :=
  Go.Proofs.Ytmhkemgbienfiaa.Base.sobriquetlaw04_wakes.calls k r w h hrt0


/-! ### sobriquetlaw04_SetsExact: function 3 -/
def sobriquetlaw04_SetsExact.l0 : Nat → List (List Int) → List (List Int) → List (List Int) → List (List Int) → List Int → Int → Option (Bool)
  | 0, _, _, _, _, _, _ => none
  | k + 1, x0, x7, x8, y8, x10, x11 => if x11 < (x8.length : Int) then (if 0 ≤ x11 then (if x11 < (x10.length : Int) then (if 0 ≤ (rd x10 x11) then (if (rd x10 x11) < (x0.length : Int) then ((sobriquetkeep_Bytes.f k (rd_L1 y8 x11) (rd_L1 x0 (rd x10 x11))).bind fun t188 => (if t188 = true then ((sobriquetkeep_OverBytes.f k (rd_L1 y8 x11)).bind fun z8 => (sobriquetlaw04_SetsExact.l0 k x0 x7 x8 (y8.set x11.toNat z8) x10 (wrap64 (x11 + 1)))) else (some false))) else (none)) else (none)) else (none)) else (none)) else ((sobriquetkeep_Rows.f k x7 x0).bind fun t190 => (if t190 = true then ((sobriquetlaw04_wakes.f k).bind fun t191 => (some t191)) else (some false)))
def sobriquetlaw04_SetsExact.f (k : Nat) (l0 : List (List Int)) (l1 : List Int) (l2 : List Int) : Option (Bool) := (sobriquetlaw04_Heavy.f k l0).bind fun t167 => (if t167 = true then (some true) else (if (l1.length : Int) > 100 then (some true) else (if (l2.length : Int) > 100 then (some true) else ((sobriquetkeep_TwinRows.f k l0).bind fun t168 => ((sets_Sort.f k t168).bind fun t171 => ((sets_Place.f t168).bind fun t174 => ((sobriquetref01_Place.f k l0).bind fun t177 => ((sobriquetkeep_Ints.f k t174 t177).bind fun t180 => (if t180 = true then (if (t171.length : Int) = (t177.length : Int) then ((sets_Sorted.f t168).bind fun t181 => ((sobriquetref01_Sorted.f k l0).bind fun t182 => (if (t181 != t182) = true then (some false) else ((sets_Compare.f l1 l2).bind fun t183 => ((sobriquetref01_Compare.f k l1 l2).bind fun t184 => (if t183 = t184 then (sobriquetlaw04_SetsExact.l0 k l0 t168 t171 t171 t177 0) else (some false))))))) else (some false)) else (some false))))))))))
theorem sobriquetlaw04_SetsExact.mono_l : ∀ k, (∀ y0 y1 y2 y3 y4 y5, LeO (sobriquetlaw04_SetsExact.l0 k y0 y1 y2 y3 y4 y5) (sobriquetlaw04_SetsExact.l0 (k + 1) y0 y1 y2 y3 y4 y5))
  | 0 => fun _ _ _ _ _ _ r h => by simp [sobriquetlaw04_SetsExact.l0] at h
  | k + 1 => by
    have ih0 := sobriquetlaw04_SetsExact.mono_l k
    · intro y0 y1 y2 y3 y4 y5
      unfold sobriquetlaw04_SetsExact.l0
      repeat' first
      | (with_reducible exact ih0 _ _ _ _ _ _)
      | (with_reducible exact sets_Sort.mono _ _)
      | (with_reducible exact sobriquetkeep_Bytes.mono _ _ _)
      | (with_reducible exact sobriquetkeep_Ints.mono _ _ _)
      | (with_reducible exact sobriquetkeep_OverBytes.mono _ _)
      | (with_reducible exact sobriquetkeep_Rows.mono _ _ _)
      | (with_reducible exact sobriquetkeep_TwinRows.mono _ _)
      | (with_reducible exact sobriquetlaw04_Heavy.mono _ _)
      | (with_reducible exact sobriquetlaw04_wakes.mono _)
      | (with_reducible exact sobriquetref01_Compare.mono _ _ _)
      | (with_reducible exact sobriquetref01_Place.mono _ _)
      | (with_reducible exact sobriquetref01_Sorted.mono _ _)
      | (with_reducible exact LeO.refl _)
      | (with_reducible exact LeO.none _)
      | (with_reducible refine LeO.ite ?_ ?_)
      | (with_reducible refine LeO.bind ?_ (fun _ => ?_))
      | exact ih0 _ _ _ _ _ _
      | exact sets_Sort.mono _ _
      | exact sobriquetkeep_Bytes.mono _ _ _
      | exact sobriquetkeep_Ints.mono _ _ _
      | exact sobriquetkeep_OverBytes.mono _ _
      | exact sobriquetkeep_Rows.mono _ _ _
      | exact sobriquetkeep_TwinRows.mono _ _
      | exact sobriquetlaw04_Heavy.mono _ _
      | exact sobriquetlaw04_wakes.mono _
      | exact sobriquetref01_Compare.mono _ _ _
      | exact sobriquetref01_Place.mono _ _
      | exact sobriquetref01_Sorted.mono _ _
      | exact LeO.none _
      | refine LeO.ite ?_ ?_
      | refine LeO.bind ?_ (fun _ => ?_)
theorem sobriquetlaw04_SetsExact.mono : ∀ a0 a1 a2 k, LeO (sobriquetlaw04_SetsExact.f k a0 a1 a2) (sobriquetlaw04_SetsExact.f (k + 1) a0 a1 a2) := by
  intro a0 a1 a2 k
  have ih0 := sobriquetlaw04_SetsExact.mono_l k
  unfold sobriquetlaw04_SetsExact.f
  repeat' first
      | (with_reducible exact ih0 _ _ _ _ _ _)
      | (with_reducible exact sets_Sort.mono _ _)
      | (with_reducible exact sobriquetkeep_Bytes.mono _ _ _)
      | (with_reducible exact sobriquetkeep_Ints.mono _ _ _)
      | (with_reducible exact sobriquetkeep_OverBytes.mono _ _)
      | (with_reducible exact sobriquetkeep_Rows.mono _ _ _)
      | (with_reducible exact sobriquetkeep_TwinRows.mono _ _)
      | (with_reducible exact sobriquetlaw04_Heavy.mono _ _)
      | (with_reducible exact sobriquetlaw04_wakes.mono _)
      | (with_reducible exact sobriquetref01_Compare.mono _ _ _)
      | (with_reducible exact sobriquetref01_Place.mono _ _)
      | (with_reducible exact sobriquetref01_Sorted.mono _ _)
      | (with_reducible exact LeO.refl _)
      | (with_reducible exact LeO.none _)
      | (with_reducible refine LeO.ite ?_ ?_)
      | (with_reducible refine LeO.bind ?_ (fun _ => ?_))
      | exact ih0 _ _ _ _ _ _
      | exact sets_Sort.mono _ _
      | exact sobriquetkeep_Bytes.mono _ _ _
      | exact sobriquetkeep_Ints.mono _ _ _
      | exact sobriquetkeep_OverBytes.mono _ _
      | exact sobriquetkeep_Rows.mono _ _ _
      | exact sobriquetkeep_TwinRows.mono _ _
      | exact sobriquetlaw04_Heavy.mono _ _
      | exact sobriquetlaw04_wakes.mono _
      | exact sobriquetref01_Compare.mono _ _ _
      | exact sobriquetref01_Place.mono _ _
      | exact sobriquetref01_Sorted.mono _ _
      | exact LeO.none _
      | refine LeO.ite ?_ ?_
      | refine LeO.bind ?_ (fun _ => ?_)
set_option maxHeartbeats 8000000 in
set_option maxRecDepth 100000 in
theorem sobriquetlaw04_SetsExact.calls (k : Nat) (A0 : Option Addr) (c0 : Nat) (l0 : List (List Int)) (A1 : Option Addr) (c1 : Nat) (l1 : List Int) (A2 : Option Addr) (c2 : Nat) (l2 : List Int) (r : Bool) (w : World) (hr0 : Kd.C (Kd.slice 5 (Kd.int .u8)) w A0 l0.length l0) (hc0 : l0.length ≤ c0) (hr1 : Kd.C (Kd.int .u8) w A1 l1.length l1) (hc1 : l1.length ≤ c1) (hr2 : Kd.C (Kd.int .u8) w A2 l2.length l2) (hc2 : l2.length ≤ c2) (h : sobriquetlaw04_SetsExact.f k l0 l1 l2 = some r) (hrt0 : r = true) :
    Calls Try.prog 3 #[.slice A0 l0.length c0, .slice A1 l1.length c1, .slice A2 l2.length c2] w fun e w' => e = .returned (.bool r) ∧ Below w.heap.size w w' := by
  have HR0 := Aside0.mk hr0
  have HC0 := Aside0.mk hc0
  clear hr0 hc0
  have HR1 := Aside0.mk hr1
  have HC1 := Aside0.mk hc1
  clear hr1 hc1
  have HR2 := Aside0.mk hr2
  have HC2 := Aside0.mk hc2
  clear hr2 hc2
  have HB := Aside0.mk (Below.refl w.heap.size w)
  have hrt := Aside0.mk hrt0
  clear hrt0
  have H : ((sobriquetlaw04_Heavy.f k l0).bind fun t167 => (if t167 = true then (some true) else (if (l1.length : Int) > 100 then (some true) else (if (l2.length : Int) > 100 then (some true) else ((sobriquetkeep_TwinRows.f k l0).bind fun t168 => ((sets_Sort.f k t168).bind fun t171 => ((sets_Place.f t168).bind fun t174 => ((sobriquetref01_Place.f k l0).bind fun t177 => ((sobriquetkeep_Ints.f k t174 t177).bind fun t180 => (if t180 = true then (if (t171.length : Int) = (t177.length : Int) then ((sets_Sorted.f t168).bind fun t181 => ((sobriquetref01_Sorted.f k l0).bind fun t182 => (if (t181 != t182) = true then (some false) else ((sets_Compare.f l1 l2).bind fun t183 => ((sobriquetref01_Compare.f k l1 l2).bind fun t184 => (if t183 = t184 then (sobriquetlaw04_SetsExact.l0 k l0 t168 t171 t171 t177 0) else (some false))))))) else (some false)) else (some false))))))))))) = some r := h
  clear h
  replace H := Option.bind_eq_some_iff.mp H
  obtain ⟨t167, A40, H⟩ := H
  replace H : (if t167 = true then (some true) else (if (l1.length : Int) > 100 then (some true) else (if (l2.length : Int) > 100 then (some true) else ((sobriquetkeep_TwinRows.f k l0).bind fun t168 => ((sets_Sort.f k t168).bind fun t171 => ((sets_Place.f t168).bind fun t174 => ((sobriquetref01_Place.f k l0).bind fun t177 => ((sobriquetkeep_Ints.f k t174 t177).bind fun t180 => (if t180 = true then (if (t171.length : Int) = (t177.length : Int) then ((sets_Sorted.f t168).bind fun t181 => ((sobriquetref01_Sorted.f k l0).bind fun t182 => (if (t181 != t182) = true then (some false) else ((sets_Compare.f l1 l2).bind fun t183 => ((sobriquetref01_Compare.f k l1 l2).bind fun t184 => (if t183 = t184 then (sobriquetlaw04_SetsExact.l0 k l0 t168 t171 t171 t177 0) else (some false))))))) else (some false)) else (some false)))))))))) = some r := H
  have A4 := Aside0.mk A40
  clear A40
  by_cases c5 : t167 = true
  · subst c5
    have H1 : (some true) = some r := by rw [if_pos rfl] at H; exact H
    clear H
    have H := H1
    clear H1
    obtain rfl := Option.some.inj H
    go_enter Try.func3, Try.ntmps3
    go_wp2_with (first | (go_at_call 7; (with_reducible refine (sobriquetlaw04_Heavy.calls k _ _ l0 true _ ?side1 ?side2 A4.out).mono ?_); (case side1 => repeat (first | exact HR0.out | (with_reducible refine Kd.C_alloc ?_ _) | (with_reducible refine Kd.C_drewN ?_ _) | (with_reducible refine Kd.C_drew ?_))); (case side2 => exact HC0.out); rintro e w' ⟨rfl, ⟨nd, rfl⟩⟩; (try first | exact ⟨rfl, _, World.drewN_drewN _ _ _⟩ | exact ⟨rfl, _, Eq.trans (World.drewN_drewN _ _ _) (congrArg (World.drewN _) (Nat.add_assoc _ _ _))⟩)))
    repeat (go_quiet (first | (go_at_call 7; (with_reducible refine (sobriquetlaw04_Heavy.calls k _ _ l0 true _ ?side1 ?side2 A4.out).mono ?_); (case side1 => repeat (first | exact HR0.out | (with_reducible refine Kd.C_alloc ?_ _) | (with_reducible refine Kd.C_drewN ?_ _) | (with_reducible refine Kd.C_drew ?_))); (case side2 => exact HC0.out); rintro e w' ⟨rfl, ⟨nd, rfl⟩⟩; (try first | exact ⟨rfl, _, World.drewN_drewN _ _ _⟩ | exact ⟨rfl, _, Eq.trans (World.drewN_drewN _ _ _) (congrArg (World.drewN _) (Nat.add_assoc _ _ _))⟩))); try go_wp2_with (first | (go_at_call 7; (with_reducible refine (sobriquetlaw04_Heavy.calls k _ _ l0 true _ ?side1 ?side2 A4.out).mono ?_); (case side1 => repeat (first | exact HR0.out | (with_reducible refine Kd.C_alloc ?_ _) | (with_reducible refine Kd.C_drewN ?_ _) | (with_reducible refine Kd.C_drew ?_))); (case side2 => exact HC0.out); rintro e w' ⟨rfl, ⟨nd, rfl⟩⟩; (try first | exact ⟨rfl, _, World.drewN_drewN _ _ _⟩ | exact ⟨rfl, _, Eq.trans (World.drewN_drewN _ _ _) (congrArg (World.drewN _) (Nat.add_assoc _ _ _))⟩))))
    go_ret
    exact ⟨by first | rfl | (simp [errW_none, errW_some] <;> rfl) | (simp [*, errW_none, errW_some] <;> rfl), by repeat (first | (with_reducible first | exact HB.out | apply below_alloc | apply pw_below_drewN | apply below_drew1) | exact HB.out)⟩
  · replace c5 := Bool.eq_false_iff.mpr c5
    subst c5
    have H1 : (if (l1.length : Int) > 100 then (some true) else (if (l2.length : Int) > 100 then (some true) else ((sobriquetkeep_TwinRows.f k l0).bind fun t168 => ((sets_Sort.f k t168).bind fun t171 => ((sets_Place.f t168).bind fun t174 => ((sobriquetref01_Place.f k l0).bind fun t177 => ((sobriquetkeep_Ints.f k t174 t177).bind fun t180 => (if t180 = true then (if (t171.length : Int) = (t177.length : Int) then ((sets_Sorted.f t168).bind fun t181 => ((sobriquetref01_Sorted.f k l0).bind fun t182 => (if (t181 != t182) = true then (some false) else ((sets_Compare.f l1 l2).bind fun t183 => ((sobriquetref01_Compare.f k l1 l2).bind fun t184 => (if t183 = t184 then (sobriquetlaw04_SetsExact.l0 k l0 t168 t171 t171 t177 0) else (some false))))))) else (some false)) else (some false))))))))) = some r := by rw [if_neg (show ¬ (false = true) by decide)] at H; exact H
    clear H
    have H := H1
    clear H1
    by_cases c6 : (l1.length : Int) > 100
    · rw [if_pos c6] at H
      have c6b0 : decide (100 < (l1.length : Int)) = true := decide_eq_true c6
      have c6b1 : decide (100 < l1.length) = true := decide_eq_true (by omega)
      clear c6
      obtain rfl := Option.some.inj H
      go_enter Try.func3, Try.ntmps3
      go_wp2_with (first | (go_at_call 7; (with_reducible refine (sobriquetlaw04_Heavy.calls k _ _ l0 false _ ?side1 ?side2 A4.out).mono ?_); (case side1 => repeat (first | exact HR0.out | (with_reducible refine Kd.C_alloc ?_ _) | (with_reducible refine Kd.C_drewN ?_ _) | (with_reducible refine Kd.C_drew ?_))); (case side2 => exact HC0.out); rintro e w' ⟨rfl, ⟨nd, rfl⟩⟩; (try first | exact ⟨rfl, _, World.drewN_drewN _ _ _⟩ | exact ⟨rfl, _, Eq.trans (World.drewN_drewN _ _ _) (congrArg (World.drewN _) (Nat.add_assoc _ _ _))⟩)))
      repeat (go_quiet (first | (go_at_call 7; (with_reducible refine (sobriquetlaw04_Heavy.calls k _ _ l0 false _ ?side1 ?side2 A4.out).mono ?_); (case side1 => repeat (first | exact HR0.out | (with_reducible refine Kd.C_alloc ?_ _) | (with_reducible refine Kd.C_drewN ?_ _) | (with_reducible refine Kd.C_drew ?_))); (case side2 => exact HC0.out); rintro e w' ⟨rfl, ⟨nd, rfl⟩⟩; (try first | exact ⟨rfl, _, World.drewN_drewN _ _ _⟩ | exact ⟨rfl, _, Eq.trans (World.drewN_drewN _ _ _) (congrArg (World.drewN _) (Nat.add_assoc _ _ _))⟩))); try go_wp2_with (first | (go_at_call 7; (with_reducible refine (sobriquetlaw04_Heavy.calls k _ _ l0 false _ ?side1 ?side2 A4.out).mono ?_); (case side1 => repeat (first | exact HR0.out | (with_reducible refine Kd.C_alloc ?_ _) | (with_reducible refine Kd.C_drewN ?_ _) | (with_reducible refine Kd.C_drew ?_))); (case side2 => exact HC0.out); rintro e w' ⟨rfl, ⟨nd, rfl⟩⟩; (try first | exact ⟨rfl, _, World.drewN_drewN _ _ _⟩ | exact ⟨rfl, _, Eq.trans (World.drewN_drewN _ _ _) (congrArg (World.drewN _) (Nat.add_assoc _ _ _))⟩))))
      go_ret
      exact ⟨by first | rfl | (simp [errW_none, errW_some] <;> rfl) | (simp [*, errW_none, errW_some] <;> rfl), by repeat (first | (with_reducible first | exact HB.out | apply below_alloc | apply pw_below_drewN | apply below_drew1) | exact HB.out)⟩
    · rw [if_neg c6] at H
      have c6b0 : decide (100 < (l1.length : Int)) = false := decide_eq_false c6
      have c6b1 : decide (100 < l1.length) = false := decide_eq_false (by omega)
      clear c6
      by_cases c7 : (l2.length : Int) > 100
      · rw [if_pos c7] at H
        have c7b0 : decide (100 < (l2.length : Int)) = true := decide_eq_true c7
        have c7b1 : decide (100 < l2.length) = true := decide_eq_true (by omega)
        clear c7
        obtain rfl := Option.some.inj H
        go_enter Try.func3, Try.ntmps3
        go_wp2_with (first | (go_at_call 7; (with_reducible refine (sobriquetlaw04_Heavy.calls k _ _ l0 false _ ?side1 ?side2 A4.out).mono ?_); (case side1 => repeat (first | exact HR0.out | (with_reducible refine Kd.C_alloc ?_ _) | (with_reducible refine Kd.C_drewN ?_ _) | (with_reducible refine Kd.C_drew ?_))); (case side2 => exact HC0.out); rintro e w' ⟨rfl, ⟨nd, rfl⟩⟩; (try first | exact ⟨rfl, _, World.drewN_drewN _ _ _⟩ | exact ⟨rfl, _, Eq.trans (World.drewN_drewN _ _ _) (congrArg (World.drewN _) (Nat.add_assoc _ _ _))⟩)))
        repeat (go_quiet (first | (go_at_call 7; (with_reducible refine (sobriquetlaw04_Heavy.calls k _ _ l0 false _ ?side1 ?side2 A4.out).mono ?_); (case side1 => repeat (first | exact HR0.out | (with_reducible refine Kd.C_alloc ?_ _) | (with_reducible refine Kd.C_drewN ?_ _) | (with_reducible refine Kd.C_drew ?_))); (case side2 => exact HC0.out); rintro e w' ⟨rfl, ⟨nd, rfl⟩⟩; (try first | exact ⟨rfl, _, World.drewN_drewN _ _ _⟩ | exact ⟨rfl, _, Eq.trans (World.drewN_drewN _ _ _) (congrArg (World.drewN _) (Nat.add_assoc _ _ _))⟩))); try go_wp2_with (first | (go_at_call 7; (with_reducible refine (sobriquetlaw04_Heavy.calls k _ _ l0 false _ ?side1 ?side2 A4.out).mono ?_); (case side1 => repeat (first | exact HR0.out | (with_reducible refine Kd.C_alloc ?_ _) | (with_reducible refine Kd.C_drewN ?_ _) | (with_reducible refine Kd.C_drew ?_))); (case side2 => exact HC0.out); rintro e w' ⟨rfl, ⟨nd, rfl⟩⟩; (try first | exact ⟨rfl, _, World.drewN_drewN _ _ _⟩ | exact ⟨rfl, _, Eq.trans (World.drewN_drewN _ _ _) (congrArg (World.drewN _) (Nat.add_assoc _ _ _))⟩))))
        go_ret
        exact ⟨by first | rfl | (simp [errW_none, errW_some] <;> rfl) | (simp [*, errW_none, errW_some] <;> rfl), by repeat (first | (with_reducible first | exact HB.out | apply below_alloc | apply pw_below_drewN | apply below_drew1) | exact HB.out)⟩
      · rw [if_neg c7] at H
        have c7b0 : decide (100 < (l2.length : Int)) = false := decide_eq_false c7
        have c7b1 : decide (100 < l2.length) = false := decide_eq_false (by omega)
        clear c7
        replace H := Option.bind_eq_some_iff.mp H
        obtain ⟨t168, A80, H⟩ := H
        replace H : ((sets_Sort.f k t168).bind fun t171 => ((sets_Place.f t168).bind fun t174 => ((sobriquetref01_Place.f k l0).bind fun t177 => ((sobriquetkeep_Ints.f k t174 t177).bind fun t180 => (if t180 = true then (if (t171.length : Int) = (t177.length : Int) then ((sets_Sorted.f t168).bind fun t181 => ((sobriquetref01_Sorted.f k l0).bind fun t182 => (if (t181 != t182) = true then (some false) else ((sets_Compare.f l1 l2).bind fun t183 => ((sobriquetref01_Compare.f k l1 l2).bind fun t184 => (if t183 = t184 then (sobriquetlaw04_SetsExact.l0 k l0 t168 t171 t171 t177 0) else (some false))))))) else (some false)) else (some false)))))) = some r := H
        have A8 := Aside0.mk A80
        clear A80
        replace H := Option.bind_eq_some_iff.mp H
        obtain ⟨t171, A90, H⟩ := H
        replace H : ((sets_Place.f t168).bind fun t174 => ((sobriquetref01_Place.f k l0).bind fun t177 => ((sobriquetkeep_Ints.f k t174 t177).bind fun t180 => (if t180 = true then (if (t171.length : Int) = (t177.length : Int) then ((sets_Sorted.f t168).bind fun t181 => ((sobriquetref01_Sorted.f k l0).bind fun t182 => (if (t181 != t182) = true then (some false) else ((sets_Compare.f l1 l2).bind fun t183 => ((sobriquetref01_Compare.f k l1 l2).bind fun t184 => (if t183 = t184 then (sobriquetlaw04_SetsExact.l0 k l0 t168 t171 t171 t177 0) else (some false))))))) else (some false)) else (some false))))) = some r := H
        have A9 := Aside0.mk A90
        clear A90
        replace H := Option.bind_eq_some_iff.mp H
        obtain ⟨t174, A100, H⟩ := H
        replace H : ((sobriquetref01_Place.f k l0).bind fun t177 => ((sobriquetkeep_Ints.f k t174 t177).bind fun t180 => (if t180 = true then (if (t171.length : Int) = (t177.length : Int) then ((sets_Sorted.f t168).bind fun t181 => ((sobriquetref01_Sorted.f k l0).bind fun t182 => (if (t181 != t182) = true then (some false) else ((sets_Compare.f l1 l2).bind fun t183 => ((sobriquetref01_Compare.f k l1 l2).bind fun t184 => (if t183 = t184 then (sobriquetlaw04_SetsExact.l0 k l0 t168 t171 t171 t177 0) else (some false))))))) else (some false)) else (some false)))) = some r := H
        have A10 := Aside0.mk A100
        clear A100
        replace H := Option.bind_eq_some_iff.mp H
        obtain ⟨t177, A110, H⟩ := H
        replace H : ((sobriquetkeep_Ints.f k t174 t177).bind fun t180 => (if t180 = true then (if (t171.length : Int) = (t177.length : Int) then ((sets_Sorted.f t168).bind fun t181 => ((sobriquetref01_Sorted.f k l0).bind fun t182 => (if (t181 != t182) = true then (some false) else ((sets_Compare.f l1 l2).bind fun t183 => ((sobriquetref01_Compare.f k l1 l2).bind fun t184 => (if t183 = t184 then (sobriquetlaw04_SetsExact.l0 k l0 t168 t171 t171 t177 0) else (some false))))))) else (some false)) else (some false))) = some r := H
        have A11 := Aside0.mk A110
        clear A110
        replace H := Option.bind_eq_some_iff.mp H
        obtain ⟨t180, A120, H⟩ := H
        replace H : (if t180 = true then (if (t171.length : Int) = (t177.length : Int) then ((sets_Sorted.f t168).bind fun t181 => ((sobriquetref01_Sorted.f k l0).bind fun t182 => (if (t181 != t182) = true then (some false) else ((sets_Compare.f l1 l2).bind fun t183 => ((sobriquetref01_Compare.f k l1 l2).bind fun t184 => (if t183 = t184 then (sobriquetlaw04_SetsExact.l0 k l0 t168 t171 t171 t177 0) else (some false))))))) else (some false)) else (some false)) = some r := H
        have A12 := Aside0.mk A120
        clear A120
        by_cases c13 : t180 = true
        · subst c13
          have H1 : (if (t171.length : Int) = (t177.length : Int) then ((sets_Sorted.f t168).bind fun t181 => ((sobriquetref01_Sorted.f k l0).bind fun t182 => (if (t181 != t182) = true then (some false) else ((sets_Compare.f l1 l2).bind fun t183 => ((sobriquetref01_Compare.f k l1 l2).bind fun t184 => (if t183 = t184 then (sobriquetlaw04_SetsExact.l0 k l0 t168 t171 t171 t177 0) else (some false))))))) else (some false)) = some r := by rw [if_pos rfl] at H; exact H
          clear H
          have H := H1
          clear H1
          by_cases c14 : (t171.length : Int) = (t177.length : Int)
          · rw [if_pos c14] at H
            have c14b0 : ((t171.length : Int) == (t177.length : Int)) = true := beq_iff_eq.mpr c14
            have c14b1 : ((t171.length : Int) != (t177.length : Int)) = false := bne_eq_false_iff_eq.mpr c14
            have c14b2 : (t171.length == t177.length) = true := by first | simpa using c14 | (simp at c14 ⊢; omega)
            clear c14
            replace H := Option.bind_eq_some_iff.mp H
            obtain ⟨t181, A150, H⟩ := H
            replace H : ((sobriquetref01_Sorted.f k l0).bind fun t182 => (if (t181 != t182) = true then (some false) else ((sets_Compare.f l1 l2).bind fun t183 => ((sobriquetref01_Compare.f k l1 l2).bind fun t184 => (if t183 = t184 then (sobriquetlaw04_SetsExact.l0 k l0 t168 t171 t171 t177 0) else (some false)))))) = some r := H
            have A15 := Aside0.mk A150
            clear A150
            replace H := Option.bind_eq_some_iff.mp H
            obtain ⟨t182, A160, H⟩ := H
            replace H : (if (t181 != t182) = true then (some false) else ((sets_Compare.f l1 l2).bind fun t183 => ((sobriquetref01_Compare.f k l1 l2).bind fun t184 => (if t183 = t184 then (sobriquetlaw04_SetsExact.l0 k l0 t168 t171 t171 t177 0) else (some false))))) = some r := H
            have A16 := Aside0.mk A160
            clear A160
            by_cases c17 : (t181 != t182) = true
            · rw [if_pos c17] at H
              have c17b0 : (t181 != t182) = true := c17
              (try (have c17b1 : decide (t181 = t182) = false := by simpa using c17))
              (try (have c17b2 : (t181 == t182) = false := by simpa using c17))
              (try (have c17b3 : ¬ (t181 = t182) := by simpa using c17))
              clear c17
              exact absurd ((Option.some.inj H).trans hrt.out) (by decide)
            · rw [if_neg c17] at H
              have c17b0 : (t181 != t182) = false := by simpa using c17
              (try (have c17b1 : decide (t181 = t182) = true := by simpa using c17))
              (try (have c17b2 : (t181 == t182) = true := by simpa using c17))
              clear c17
              replace H := Option.bind_eq_some_iff.mp H
              obtain ⟨t183, A180, H⟩ := H
              replace H : ((sobriquetref01_Compare.f k l1 l2).bind fun t184 => (if t183 = t184 then (sobriquetlaw04_SetsExact.l0 k l0 t168 t171 t171 t177 0) else (some false))) = some r := H
              have A18 := Aside0.mk A180
              clear A180
              replace H := Option.bind_eq_some_iff.mp H
              obtain ⟨t184, A190, H⟩ := H
              replace H : (if t183 = t184 then (sobriquetlaw04_SetsExact.l0 k l0 t168 t171 t171 t177 0) else (some false)) = some r := H
              have A19 := Aside0.mk A190
              clear A190
              by_cases c20 : t183 = t184
              · rw [if_pos c20] at H
                have c20b0 : (t183 == t184) = true := beq_iff_eq.mpr c20
                have c20b1 : (t183 != t184) = false := bne_eq_false_iff_eq.mpr c20
                clear c20
                have H' := Aside0.mk H
                clear H
                go_enter Try.func3, Try.ntmps3
                go_wp2_with (first | (go_at_call 7; (with_reducible refine (sobriquetlaw04_Heavy.calls k _ _ l0 false _ ?side1 ?side2 A4.out).mono ?_); (case side1 => repeat (first | exact HR0.out | (with_reducible refine Kd.C_alloc ?_ _) | (with_reducible refine Kd.C_drewN ?_ _) | (with_reducible refine Kd.C_drew ?_))); (case side2 => exact HC0.out); rintro e w' ⟨rfl, ⟨nd, rfl⟩⟩; (try first | exact ⟨rfl, _, World.drewN_drewN _ _ _⟩ | exact ⟨rfl, _, Eq.trans (World.drewN_drewN _ _ _) (congrArg (World.drewN _) (Nat.add_assoc _ _ _))⟩)) | (go_at_call 8; (with_reducible refine (sobriquetkeep_TwinRows.calls k _ _ l0 t168 _ ?side1 ?side2 A8.out).mono ?_); (case side1 => repeat (first | exact HR0.out | (with_reducible refine Kd.C_alloc ?_ _) | (with_reducible refine Kd.C_drewN ?_ _) | (with_reducible refine Kd.C_drew ?_))); (case side2 => exact HC0.out); rintro e w21 ⟨v169, rfl, ho0, hb⟩; have n0_ := Aside0.mk (Kd.S_lower ho0 (below_size (by repeat (first | (with_reducible first | exact HB.out | apply below_alloc | apply pw_below_drewN | apply below_drew1) | exact HB.out)))); have n1_ := Aside0.mk (below_step (by repeat (first | (with_reducible first | exact HB.out | apply below_alloc | apply pw_below_drewN | apply below_drew1) | exact HB.out)) hb); clear HB; have HO170 := n0_; have HB := n1_; clear n0_ n1_; (try clear hb); (try clear hb2); (try clear hk); (try clear hi); (try clear ho0); obtain ⟨Ao22, co22, eo22⟩ := Kd.S_slice HO170.out; subst eo22) | (go_at_call 9; (with_reducible refine (sets_Sort.calls k _ _ t168 t171 _ ?side1 ?side2 A9.out).mono ?_); (case side1 => repeat (first | exact (Kd.S_reads' HO170.out).2.2 | (with_reducible refine Kd.C_alloc ?_ _) | (with_reducible refine Kd.C_drewN ?_ _) | (with_reducible refine Kd.C_drew ?_))); (case side2 => exact (Kd.S_reads' HO170.out).2.1); rintro e w23 ⟨v172, rfl, ho0, hb⟩; have n0_ := Aside0.mk (Kd.S_elder' (by (with_reducible repeat (first | apply Kd.S_alloc | apply Kd.S_drewN | apply Kd.S_drew)); exact HO170.out) (Kd.S_base ho0) hb); obtain ⟨wz, hz, hbz⟩ := SE.name_below hb; have C7 := Aside0.mk (show Kd.C (Kd.slice 5 (Kd.int .u8)) wz Ao22 t168.length t168 from by rw [hz]; exact (Kd.S_reads' (by (with_reducible repeat (first | apply Kd.S_alloc | apply Kd.S_drewN | apply Kd.S_drew)); exact HO170.out)).2.2); have C7c := Aside0.mk (Kd.S_reads' HO170.out).2.1; have HZ := Aside0.mk (show Below w.heap.size w wz from by rw [hz]; exact (by repeat (first | (with_reducible first | exact HB.out | apply below_alloc | apply pw_below_drewN | apply below_drew1) | exact HB.out))); have n1_ := Aside0.mk (show Kd.S (Kd.slice 5 (Kd.int .u8)) 23 w23 wz.heap.size (fun k_ => k_ < w23.heap.size) v172 t171 from by rw [hz]; exact Kd.S_mono (Kd.S_bound ho0) (fun _ hk_ => hk_.2.2.1)); have n2_ := Aside0.mk (show SE.BB w wz w23 from ⟨below_step (by repeat (first | (with_reducible first | exact HB.out | apply below_alloc | apply pw_below_drewN | apply below_drew1) | exact HB.out)) hb, hbz⟩); clear hz hbz; clear HO170; clear HB; have HO170 := n0_; have HO173 := n1_; have HB := n2_; clear n0_ n1_ n2_; (try clear hb); (try clear hb2); (try clear hk); (try clear hi); (try clear ho0)) | (go_at_call 10; (with_reducible refine (sets_Place.calls _ _ t168 t174 _ ?side1 ?side2 A10.out).mono ?_); (case side1 => repeat (first | exact (Kd.S_reads' HO170.out).2.2 | (with_reducible refine Kd.C_alloc ?_ _) | (with_reducible refine Kd.C_drewN ?_ _) | (with_reducible refine Kd.C_drew ?_))); (case side2 => exact (Kd.S_reads' HO170.out).2.1); rintro e w24 ⟨v175, rfl, ho0, hb⟩; have n0_ := Aside0.mk (Kd.S_below (by (with_reducible repeat (first | apply Kd.S_alloc | apply Kd.S_drewN | apply Kd.S_drew)); exact HO170.out) hb); have n1_ := Aside0.mk (Kd.S_below (by (with_reducible repeat (first | apply Kd.S_alloc | apply Kd.S_drewN | apply Kd.S_drew)); exact HO173.out) hb); have n2_ := Aside0.mk (Kd.R_lower ho0 (SE.bb_size (by repeat (first | (with_reducible first | exact HB.out | apply SE.bb_alloc | apply SE.bb_drewN | apply SE.bb_drew1) | exact HB.out)))); have n3_ := Aside0.mk (SE.bb_step (by repeat (first | (with_reducible first | exact HB.out | apply SE.bb_alloc | apply SE.bb_drewN | apply SE.bb_drew1) | exact HB.out)) hb); have HN1 := Aside0.mk (show w23.heap.size ≤ w24.heap.size from hb.size); clear HO170; clear HO173; clear HB; have HO170 := n0_; have HO173 := n1_; have HO176 := n2_; have HB := n3_; clear n0_ n1_ n2_ n3_; (try clear hb); (try clear hb2); (try clear hk); (try clear hi); (try clear ho0)) | (go_at_call 11; (with_reducible refine (sobriquetref01_Place.calls k _ _ l0 t177 _ ?side1 ?side2 A11.out).mono ?_); (case side1 => repeat (first | exact (Kd.C_below HR0.out HB.out.1) | (with_reducible refine Kd.C_alloc ?_ _) | (with_reducible refine Kd.C_drewN ?_ _) | (with_reducible refine Kd.C_drew ?_))); (case side2 => exact HC0.out); rintro e w25 ⟨v178, rfl, ho0, hb⟩; have n0_ := Aside0.mk (Kd.S_below (by (with_reducible repeat (first | apply Kd.S_alloc | apply Kd.S_drewN | apply Kd.S_drew)); exact HO170.out) hb); have n1_ := Aside0.mk (Kd.S_below (by (with_reducible repeat (first | apply Kd.S_alloc | apply Kd.S_drewN | apply Kd.S_drew)); exact HO173.out) hb); have n2_ := Aside0.mk (Kd.R_elder' (by (with_reducible repeat (first | apply Kd.R_alloc | apply Kd.R_drewN | apply Kd.R_drew)); exact HO176.out) (Kd.R_base ho0) hb); have n3_ := Aside0.mk (Kd.R_lower (Kd.R_mono (Kd.R_bound ho0) (fun k_ hk_ => (Nat.le_trans HN1.out hk_.2.1 : w23.heap.size ≤ k_))) (SE.bb_size (by repeat (first | (with_reducible first | exact HB.out | apply SE.bb_alloc | apply SE.bb_drewN | apply SE.bb_drew1) | exact HB.out)))); have n4_ := Aside0.mk (SE.bb_step (by repeat (first | (with_reducible first | exact HB.out | apply SE.bb_alloc | apply SE.bb_drewN | apply SE.bb_drew1) | exact HB.out)) hb); clear HO170; clear HO173; clear HO176; clear HB; have HO170 := n0_; have HO173 := n1_; have HO176 := n2_; have HO179 := n3_; have HB := n4_; clear n0_ n1_ n2_ n3_ n4_; (try clear hb); (try clear hb2); (try clear hk); (try clear hi); (try clear ho0); obtain ⟨Ao26, co26, eo26⟩ := Kd.R_slice HO176.out; subst eo26; obtain ⟨Ao27, co27, eo27⟩ := Kd.R_slice HO179.out; subst eo27) | (go_at_call 12; (with_reducible refine (sobriquetkeep_Ints.calls k _ _ t174 _ _ t177 true _ ?side1 ?side2 ?side3 ?side4 A12.out).mono ?_); (case side1 => repeat (first | exact (Kd.R_reads' HO176.out).2.2 | (with_reducible refine Kd.C_alloc ?_ _) | (with_reducible refine Kd.C_drewN ?_ _) | (with_reducible refine Kd.C_drew ?_))); (case side2 => exact (Kd.R_reads' HO176.out).2.1); (case side3 => repeat (first | exact (Kd.R_reads' HO179.out).2.2 | (with_reducible refine Kd.C_alloc ?_ _) | (with_reducible refine Kd.C_drewN ?_ _) | (with_reducible refine Kd.C_drew ?_))); (case side4 => exact (Kd.R_reads' HO179.out).2.1); rintro e w' ⟨rfl, ⟨nd, rfl⟩⟩; (try first | exact ⟨rfl, _, World.drewN_drewN _ _ _⟩ | exact ⟨rfl, _, Eq.trans (World.drewN_drewN _ _ _) (congrArg (World.drewN _) (Nat.add_assoc _ _ _))⟩); obtain ⟨Ao28, co28, eo28⟩ := Kd.S_slice HO173.out; subst eo28) | (go_at_call 13; (with_reducible refine (sets_Sorted.calls _ _ t168 t181 _ ?side1 ?side2 A15.out).mono ?_); (case side1 => repeat (first | exact (Kd.S_reads' HO170.out).2.2 | (with_reducible refine Kd.C_alloc ?_ _) | (with_reducible refine Kd.C_drewN ?_ _) | (with_reducible refine Kd.C_drew ?_))); (case side2 => exact (Kd.S_reads' HO170.out).2.1); rintro e w' ⟨rfl, ⟨nd, rfl⟩⟩; (try first | exact ⟨rfl, _, World.drewN_drewN _ _ _⟩ | exact ⟨rfl, _, Eq.trans (World.drewN_drewN _ _ _) (congrArg (World.drewN _) (Nat.add_assoc _ _ _))⟩)) | (go_at_call 14; (with_reducible refine (sobriquetref01_Sorted.calls k _ _ l0 t182 _ ?side1 ?side2 A16.out).mono ?_); (case side1 => repeat (first | exact (Kd.C_below HR0.out (show SE.BB w wz _ from by repeat (first | (with_reducible first | exact HB.out | apply SE.bb_alloc | apply SE.bb_drewN | apply SE.bb_drew1) | exact HB.out)).1) | (with_reducible refine Kd.C_alloc ?_ _) | (with_reducible refine Kd.C_drewN ?_ _) | (with_reducible refine Kd.C_drew ?_))); (case side2 => exact HC0.out); rintro e w' ⟨rfl, ⟨nd, rfl⟩⟩; (try first | exact ⟨rfl, _, World.drewN_drewN _ _ _⟩ | exact ⟨rfl, _, Eq.trans (World.drewN_drewN _ _ _) (congrArg (World.drewN _) (Nat.add_assoc _ _ _))⟩)) | (go_at_call 15; (with_reducible refine (sets_Compare.calls _ _ l1 _ _ l2 t183 _ ?side1 ?side2 ?side3 ?side4 A18.out).mono ?_); (case side1 => repeat (first | exact (Kd.C_below HR1.out (show SE.BB w wz _ from by repeat (first | (with_reducible first | exact HB.out | apply SE.bb_alloc | apply SE.bb_drewN | apply SE.bb_drew1) | exact HB.out)).1) | (with_reducible refine Kd.C_alloc ?_ _) | (with_reducible refine Kd.C_drewN ?_ _) | (with_reducible refine Kd.C_drew ?_))); (case side2 => exact HC1.out); (case side3 => repeat (first | exact (Kd.C_below HR2.out (show SE.BB w wz _ from by repeat (first | (with_reducible first | exact HB.out | apply SE.bb_alloc | apply SE.bb_drewN | apply SE.bb_drew1) | exact HB.out)).1) | (with_reducible refine Kd.C_alloc ?_ _) | (with_reducible refine Kd.C_drewN ?_ _) | (with_reducible refine Kd.C_drew ?_))); (case side4 => exact HC2.out); rintro e w' ⟨rfl, ⟨nd, rfl⟩⟩; (try first | exact ⟨rfl, _, World.drewN_drewN _ _ _⟩ | exact ⟨rfl, _, Eq.trans (World.drewN_drewN _ _ _) (congrArg (World.drewN _) (Nat.add_assoc _ _ _))⟩)) | (go_at_call 16; (with_reducible refine (sobriquetref01_Compare.calls k _ _ l1 _ _ l2 t184 _ ?side1 ?side2 ?side3 ?side4 A19.out).mono ?_); (case side1 => repeat (first | exact (Kd.C_below HR1.out (show SE.BB w wz _ from by repeat (first | (with_reducible first | exact HB.out | apply SE.bb_alloc | apply SE.bb_drewN | apply SE.bb_drew1) | exact HB.out)).1) | (with_reducible refine Kd.C_alloc ?_ _) | (with_reducible refine Kd.C_drewN ?_ _) | (with_reducible refine Kd.C_drew ?_))); (case side2 => exact HC1.out); (case side3 => repeat (first | exact (Kd.C_below HR2.out (show SE.BB w wz _ from by repeat (first | (with_reducible first | exact HB.out | apply SE.bb_alloc | apply SE.bb_drewN | apply SE.bb_drew1) | exact HB.out)).1) | (with_reducible refine Kd.C_alloc ?_ _) | (with_reducible refine Kd.C_drewN ?_ _) | (with_reducible refine Kd.C_drew ?_))); (case side4 => exact HC2.out); rintro e w' ⟨rfl, ⟨nd, rfl⟩⟩; (try first | exact ⟨rfl, _, World.drewN_drewN _ _ _⟩ | exact ⟨rfl, _, Eq.trans (World.drewN_drewN _ _ _) (congrArg (World.drewN _) (Nat.add_assoc _ _ _))⟩)))
                repeat (go_quiet (first | (go_at_call 7; (with_reducible refine (sobriquetlaw04_Heavy.calls k _ _ l0 false _ ?side1 ?side2 A4.out).mono ?_); (case side1 => repeat (first | exact HR0.out | (with_reducible refine Kd.C_alloc ?_ _) | (with_reducible refine Kd.C_drewN ?_ _) | (with_reducible refine Kd.C_drew ?_))); (case side2 => exact HC0.out); rintro e w' ⟨rfl, ⟨nd, rfl⟩⟩; (try first | exact ⟨rfl, _, World.drewN_drewN _ _ _⟩ | exact ⟨rfl, _, Eq.trans (World.drewN_drewN _ _ _) (congrArg (World.drewN _) (Nat.add_assoc _ _ _))⟩)) | (go_at_call 8; (with_reducible refine (sobriquetkeep_TwinRows.calls k _ _ l0 t168 _ ?side1 ?side2 A8.out).mono ?_); (case side1 => repeat (first | exact HR0.out | (with_reducible refine Kd.C_alloc ?_ _) | (with_reducible refine Kd.C_drewN ?_ _) | (with_reducible refine Kd.C_drew ?_))); (case side2 => exact HC0.out); rintro e w21 ⟨v169, rfl, ho0, hb⟩; have n0_ := Aside0.mk (Kd.S_lower ho0 (below_size (by repeat (first | (with_reducible first | exact HB.out | apply below_alloc | apply pw_below_drewN | apply below_drew1) | exact HB.out)))); have n1_ := Aside0.mk (below_step (by repeat (first | (with_reducible first | exact HB.out | apply below_alloc | apply pw_below_drewN | apply below_drew1) | exact HB.out)) hb); clear HB; have HO170 := n0_; have HB := n1_; clear n0_ n1_; (try clear hb); (try clear hb2); (try clear hk); (try clear hi); (try clear ho0); obtain ⟨Ao22, co22, eo22⟩ := Kd.S_slice HO170.out; subst eo22) | (go_at_call 9; (with_reducible refine (sets_Sort.calls k _ _ t168 t171 _ ?side1 ?side2 A9.out).mono ?_); (case side1 => repeat (first | exact (Kd.S_reads' HO170.out).2.2 | (with_reducible refine Kd.C_alloc ?_ _) | (with_reducible refine Kd.C_drewN ?_ _) | (with_reducible refine Kd.C_drew ?_))); (case side2 => exact (Kd.S_reads' HO170.out).2.1); rintro e w23 ⟨v172, rfl, ho0, hb⟩; have n0_ := Aside0.mk (Kd.S_elder' (by (with_reducible repeat (first | apply Kd.S_alloc | apply Kd.S_drewN | apply Kd.S_drew)); exact HO170.out) (Kd.S_base ho0) hb); obtain ⟨wz, hz, hbz⟩ := SE.name_below hb; have C7 := Aside0.mk (show Kd.C (Kd.slice 5 (Kd.int .u8)) wz Ao22 t168.length t168 from by rw [hz]; exact (Kd.S_reads' (by (with_reducible repeat (first | apply Kd.S_alloc | apply Kd.S_drewN | apply Kd.S_drew)); exact HO170.out)).2.2); have C7c := Aside0.mk (Kd.S_reads' HO170.out).2.1; have HZ := Aside0.mk (show Below w.heap.size w wz from by rw [hz]; exact (by repeat (first | (with_reducible first | exact HB.out | apply below_alloc | apply pw_below_drewN | apply below_drew1) | exact HB.out))); have n1_ := Aside0.mk (show Kd.S (Kd.slice 5 (Kd.int .u8)) 23 w23 wz.heap.size (fun k_ => k_ < w23.heap.size) v172 t171 from by rw [hz]; exact Kd.S_mono (Kd.S_bound ho0) (fun _ hk_ => hk_.2.2.1)); have n2_ := Aside0.mk (show SE.BB w wz w23 from ⟨below_step (by repeat (first | (with_reducible first | exact HB.out | apply below_alloc | apply pw_below_drewN | apply below_drew1) | exact HB.out)) hb, hbz⟩); clear hz hbz; clear HO170; clear HB; have HO170 := n0_; have HO173 := n1_; have HB := n2_; clear n0_ n1_ n2_; (try clear hb); (try clear hb2); (try clear hk); (try clear hi); (try clear ho0)) | (go_at_call 10; (with_reducible refine (sets_Place.calls _ _ t168 t174 _ ?side1 ?side2 A10.out).mono ?_); (case side1 => repeat (first | exact (Kd.S_reads' HO170.out).2.2 | (with_reducible refine Kd.C_alloc ?_ _) | (with_reducible refine Kd.C_drewN ?_ _) | (with_reducible refine Kd.C_drew ?_))); (case side2 => exact (Kd.S_reads' HO170.out).2.1); rintro e w24 ⟨v175, rfl, ho0, hb⟩; have n0_ := Aside0.mk (Kd.S_below (by (with_reducible repeat (first | apply Kd.S_alloc | apply Kd.S_drewN | apply Kd.S_drew)); exact HO170.out) hb); have n1_ := Aside0.mk (Kd.S_below (by (with_reducible repeat (first | apply Kd.S_alloc | apply Kd.S_drewN | apply Kd.S_drew)); exact HO173.out) hb); have n2_ := Aside0.mk (Kd.R_lower ho0 (SE.bb_size (by repeat (first | (with_reducible first | exact HB.out | apply SE.bb_alloc | apply SE.bb_drewN | apply SE.bb_drew1) | exact HB.out)))); have n3_ := Aside0.mk (SE.bb_step (by repeat (first | (with_reducible first | exact HB.out | apply SE.bb_alloc | apply SE.bb_drewN | apply SE.bb_drew1) | exact HB.out)) hb); have HN1 := Aside0.mk (show w23.heap.size ≤ w24.heap.size from hb.size); clear HO170; clear HO173; clear HB; have HO170 := n0_; have HO173 := n1_; have HO176 := n2_; have HB := n3_; clear n0_ n1_ n2_ n3_; (try clear hb); (try clear hb2); (try clear hk); (try clear hi); (try clear ho0)) | (go_at_call 11; (with_reducible refine (sobriquetref01_Place.calls k _ _ l0 t177 _ ?side1 ?side2 A11.out).mono ?_); (case side1 => repeat (first | exact (Kd.C_below HR0.out HB.out.1) | (with_reducible refine Kd.C_alloc ?_ _) | (with_reducible refine Kd.C_drewN ?_ _) | (with_reducible refine Kd.C_drew ?_))); (case side2 => exact HC0.out); rintro e w25 ⟨v178, rfl, ho0, hb⟩; have n0_ := Aside0.mk (Kd.S_below (by (with_reducible repeat (first | apply Kd.S_alloc | apply Kd.S_drewN | apply Kd.S_drew)); exact HO170.out) hb); have n1_ := Aside0.mk (Kd.S_below (by (with_reducible repeat (first | apply Kd.S_alloc | apply Kd.S_drewN | apply Kd.S_drew)); exact HO173.out) hb); have n2_ := Aside0.mk (Kd.R_elder' (by (with_reducible repeat (first | apply Kd.R_alloc | apply Kd.R_drewN | apply Kd.R_drew)); exact HO176.out) (Kd.R_base ho0) hb); have n3_ := Aside0.mk (Kd.R_lower (Kd.R_mono (Kd.R_bound ho0) (fun k_ hk_ => (Nat.le_trans HN1.out hk_.2.1 : w23.heap.size ≤ k_))) (SE.bb_size (by repeat (first | (with_reducible first | exact HB.out | apply SE.bb_alloc | apply SE.bb_drewN | apply SE.bb_drew1) | exact HB.out)))); have n4_ := Aside0.mk (SE.bb_step (by repeat (first | (with_reducible first | exact HB.out | apply SE.bb_alloc | apply SE.bb_drewN | apply SE.bb_drew1) | exact HB.out)) hb); clear HO170; clear HO173; clear HO176; clear HB; have HO170 := n0_; have HO173 := n1_; have HO176 := n2_; have HO179 := n3_; have HB := n4_; clear n0_ n1_ n2_ n3_ n4_; (try clear hb); (try clear hb2); (try clear hk); (try clear hi); (try clear ho0); obtain ⟨Ao26, co26, eo26⟩ := Kd.R_slice HO176.out; subst eo26; obtain ⟨Ao27, co27, eo27⟩ := Kd.R_slice HO179.out; subst eo27) | (go_at_call 12; (with_reducible refine (sobriquetkeep_Ints.calls k _ _ t174 _ _ t177 true _ ?side1 ?side2 ?side3 ?side4 A12.out).mono ?_); (case side1 => repeat (first | exact (Kd.R_reads' HO176.out).2.2 | (with_reducible refine Kd.C_alloc ?_ _) | (with_reducible refine Kd.C_drewN ?_ _) | (with_reducible refine Kd.C_drew ?_))); (case side2 => exact (Kd.R_reads' HO176.out).2.1); (case side3 => repeat (first | exact (Kd.R_reads' HO179.out).2.2 | (with_reducible refine Kd.C_alloc ?_ _) | (with_reducible refine Kd.C_drewN ?_ _) | (with_reducible refine Kd.C_drew ?_))); (case side4 => exact (Kd.R_reads' HO179.out).2.1); rintro e w' ⟨rfl, ⟨nd, rfl⟩⟩; (try first | exact ⟨rfl, _, World.drewN_drewN _ _ _⟩ | exact ⟨rfl, _, Eq.trans (World.drewN_drewN _ _ _) (congrArg (World.drewN _) (Nat.add_assoc _ _ _))⟩); obtain ⟨Ao28, co28, eo28⟩ := Kd.S_slice HO173.out; subst eo28) | (go_at_call 13; (with_reducible refine (sets_Sorted.calls _ _ t168 t181 _ ?side1 ?side2 A15.out).mono ?_); (case side1 => repeat (first | exact (Kd.S_reads' HO170.out).2.2 | (with_reducible refine Kd.C_alloc ?_ _) | (with_reducible refine Kd.C_drewN ?_ _) | (with_reducible refine Kd.C_drew ?_))); (case side2 => exact (Kd.S_reads' HO170.out).2.1); rintro e w' ⟨rfl, ⟨nd, rfl⟩⟩; (try first | exact ⟨rfl, _, World.drewN_drewN _ _ _⟩ | exact ⟨rfl, _, Eq.trans (World.drewN_drewN _ _ _) (congrArg (World.drewN _) (Nat.add_assoc _ _ _))⟩)) | (go_at_call 14; (with_reducible refine (sobriquetref01_Sorted.calls k _ _ l0 t182 _ ?side1 ?side2 A16.out).mono ?_); (case side1 => repeat (first | exact (Kd.C_below HR0.out (show SE.BB w wz _ from by repeat (first | (with_reducible first | exact HB.out | apply SE.bb_alloc | apply SE.bb_drewN | apply SE.bb_drew1) | exact HB.out)).1) | (with_reducible refine Kd.C_alloc ?_ _) | (with_reducible refine Kd.C_drewN ?_ _) | (with_reducible refine Kd.C_drew ?_))); (case side2 => exact HC0.out); rintro e w' ⟨rfl, ⟨nd, rfl⟩⟩; (try first | exact ⟨rfl, _, World.drewN_drewN _ _ _⟩ | exact ⟨rfl, _, Eq.trans (World.drewN_drewN _ _ _) (congrArg (World.drewN _) (Nat.add_assoc _ _ _))⟩)) | (go_at_call 15; (with_reducible refine (sets_Compare.calls _ _ l1 _ _ l2 t183 _ ?side1 ?side2 ?side3 ?side4 A18.out).mono ?_); (case side1 => repeat (first | exact (Kd.C_below HR1.out (show SE.BB w wz _ from by repeat (first | (with_reducible first | exact HB.out | apply SE.bb_alloc | apply SE.bb_drewN | apply SE.bb_drew1) | exact HB.out)).1) | (with_reducible refine Kd.C_alloc ?_ _) | (with_reducible refine Kd.C_drewN ?_ _) | (with_reducible refine Kd.C_drew ?_))); (case side2 => exact HC1.out); (case side3 => repeat (first | exact (Kd.C_below HR2.out (show SE.BB w wz _ from by repeat (first | (with_reducible first | exact HB.out | apply SE.bb_alloc | apply SE.bb_drewN | apply SE.bb_drew1) | exact HB.out)).1) | (with_reducible refine Kd.C_alloc ?_ _) | (with_reducible refine Kd.C_drewN ?_ _) | (with_reducible refine Kd.C_drew ?_))); (case side4 => exact HC2.out); rintro e w' ⟨rfl, ⟨nd, rfl⟩⟩; (try first | exact ⟨rfl, _, World.drewN_drewN _ _ _⟩ | exact ⟨rfl, _, Eq.trans (World.drewN_drewN _ _ _) (congrArg (World.drewN _) (Nat.add_assoc _ _ _))⟩)) | (go_at_call 16; (with_reducible refine (sobriquetref01_Compare.calls k _ _ l1 _ _ l2 t184 _ ?side1 ?side2 ?side3 ?side4 A19.out).mono ?_); (case side1 => repeat (first | exact (Kd.C_below HR1.out (show SE.BB w wz _ from by repeat (first | (with_reducible first | exact HB.out | apply SE.bb_alloc | apply SE.bb_drewN | apply SE.bb_drew1) | exact HB.out)).1) | (with_reducible refine Kd.C_alloc ?_ _) | (with_reducible refine Kd.C_drewN ?_ _) | (with_reducible refine Kd.C_drew ?_))); (case side2 => exact HC1.out); (case side3 => repeat (first | exact (Kd.C_below HR2.out (show SE.BB w wz _ from by repeat (first | (with_reducible first | exact HB.out | apply SE.bb_alloc | apply SE.bb_drewN | apply SE.bb_drew1) | exact HB.out)).1) | (with_reducible refine Kd.C_alloc ?_ _) | (with_reducible refine Kd.C_drewN ?_ _) | (with_reducible refine Kd.C_drew ?_))); (case side4 => exact HC2.out); rintro e w' ⟨rfl, ⟨nd, rfl⟩⟩; (try first | exact ⟨rfl, _, World.drewN_drewN _ _ _⟩ | exact ⟨rfl, _, Eq.trans (World.drewN_drewN _ _ _) (congrArg (World.drewN _) (Nat.add_assoc _ _ _))⟩))); try go_wp2_with (first | (go_at_call 7; (with_reducible refine (sobriquetlaw04_Heavy.calls k _ _ l0 false _ ?side1 ?side2 A4.out).mono ?_); (case side1 => repeat (first | exact HR0.out | (with_reducible refine Kd.C_alloc ?_ _) | (with_reducible refine Kd.C_drewN ?_ _) | (with_reducible refine Kd.C_drew ?_))); (case side2 => exact HC0.out); rintro e w' ⟨rfl, ⟨nd, rfl⟩⟩; (try first | exact ⟨rfl, _, World.drewN_drewN _ _ _⟩ | exact ⟨rfl, _, Eq.trans (World.drewN_drewN _ _ _) (congrArg (World.drewN _) (Nat.add_assoc _ _ _))⟩)) | (go_at_call 8; (with_reducible refine (sobriquetkeep_TwinRows.calls k _ _ l0 t168 _ ?side1 ?side2 A8.out).mono ?_); (case side1 => repeat (first | exact HR0.out | (with_reducible refine Kd.C_alloc ?_ _) | (with_reducible refine Kd.C_drewN ?_ _) | (with_reducible refine Kd.C_drew ?_))); (case side2 => exact HC0.out); rintro e w21 ⟨v169, rfl, ho0, hb⟩; have n0_ := Aside0.mk (Kd.S_lower ho0 (below_size (by repeat (first | (with_reducible first | exact HB.out | apply below_alloc | apply pw_below_drewN | apply below_drew1) | exact HB.out)))); have n1_ := Aside0.mk (below_step (by repeat (first | (with_reducible first | exact HB.out | apply below_alloc | apply pw_below_drewN | apply below_drew1) | exact HB.out)) hb); clear HB; have HO170 := n0_; have HB := n1_; clear n0_ n1_; (try clear hb); (try clear hb2); (try clear hk); (try clear hi); (try clear ho0); obtain ⟨Ao22, co22, eo22⟩ := Kd.S_slice HO170.out; subst eo22) | (go_at_call 9; (with_reducible refine (sets_Sort.calls k _ _ t168 t171 _ ?side1 ?side2 A9.out).mono ?_); (case side1 => repeat (first | exact (Kd.S_reads' HO170.out).2.2 | (with_reducible refine Kd.C_alloc ?_ _) | (with_reducible refine Kd.C_drewN ?_ _) | (with_reducible refine Kd.C_drew ?_))); (case side2 => exact (Kd.S_reads' HO170.out).2.1); rintro e w23 ⟨v172, rfl, ho0, hb⟩; have n0_ := Aside0.mk (Kd.S_elder' (by (with_reducible repeat (first | apply Kd.S_alloc | apply Kd.S_drewN | apply Kd.S_drew)); exact HO170.out) (Kd.S_base ho0) hb); obtain ⟨wz, hz, hbz⟩ := SE.name_below hb; have C7 := Aside0.mk (show Kd.C (Kd.slice 5 (Kd.int .u8)) wz Ao22 t168.length t168 from by rw [hz]; exact (Kd.S_reads' (by (with_reducible repeat (first | apply Kd.S_alloc | apply Kd.S_drewN | apply Kd.S_drew)); exact HO170.out)).2.2); have C7c := Aside0.mk (Kd.S_reads' HO170.out).2.1; have HZ := Aside0.mk (show Below w.heap.size w wz from by rw [hz]; exact (by repeat (first | (with_reducible first | exact HB.out | apply below_alloc | apply pw_below_drewN | apply below_drew1) | exact HB.out))); have n1_ := Aside0.mk (show Kd.S (Kd.slice 5 (Kd.int .u8)) 23 w23 wz.heap.size (fun k_ => k_ < w23.heap.size) v172 t171 from by rw [hz]; exact Kd.S_mono (Kd.S_bound ho0) (fun _ hk_ => hk_.2.2.1)); have n2_ := Aside0.mk (show SE.BB w wz w23 from ⟨below_step (by repeat (first | (with_reducible first | exact HB.out | apply below_alloc | apply pw_below_drewN | apply below_drew1) | exact HB.out)) hb, hbz⟩); clear hz hbz; clear HO170; clear HB; have HO170 := n0_; have HO173 := n1_; have HB := n2_; clear n0_ n1_ n2_; (try clear hb); (try clear hb2); (try clear hk); (try clear hi); (try clear ho0)) | (go_at_call 10; (with_reducible refine (sets_Place.calls _ _ t168 t174 _ ?side1 ?side2 A10.out).mono ?_); (case side1 => repeat (first | exact (Kd.S_reads' HO170.out).2.2 | (with_reducible refine Kd.C_alloc ?_ _) | (with_reducible refine Kd.C_drewN ?_ _) | (with_reducible refine Kd.C_drew ?_))); (case side2 => exact (Kd.S_reads' HO170.out).2.1); rintro e w24 ⟨v175, rfl, ho0, hb⟩; have n0_ := Aside0.mk (Kd.S_below (by (with_reducible repeat (first | apply Kd.S_alloc | apply Kd.S_drewN | apply Kd.S_drew)); exact HO170.out) hb); have n1_ := Aside0.mk (Kd.S_below (by (with_reducible repeat (first | apply Kd.S_alloc | apply Kd.S_drewN | apply Kd.S_drew)); exact HO173.out) hb); have n2_ := Aside0.mk (Kd.R_lower ho0 (SE.bb_size (by repeat (first | (with_reducible first | exact HB.out | apply SE.bb_alloc | apply SE.bb_drewN | apply SE.bb_drew1) | exact HB.out)))); have n3_ := Aside0.mk (SE.bb_step (by repeat (first | (with_reducible first | exact HB.out | apply SE.bb_alloc | apply SE.bb_drewN | apply SE.bb_drew1) | exact HB.out)) hb); have HN1 := Aside0.mk (show w23.heap.size ≤ w24.heap.size from hb.size); clear HO170; clear HO173; clear HB; have HO170 := n0_; have HO173 := n1_; have HO176 := n2_; have HB := n3_; clear n0_ n1_ n2_ n3_; (try clear hb); (try clear hb2); (try clear hk); (try clear hi); (try clear ho0)) | (go_at_call 11; (with_reducible refine (sobriquetref01_Place.calls k _ _ l0 t177 _ ?side1 ?side2 A11.out).mono ?_); (case side1 => repeat (first | exact (Kd.C_below HR0.out HB.out.1) | (with_reducible refine Kd.C_alloc ?_ _) | (with_reducible refine Kd.C_drewN ?_ _) | (with_reducible refine Kd.C_drew ?_))); (case side2 => exact HC0.out); rintro e w25 ⟨v178, rfl, ho0, hb⟩; have n0_ := Aside0.mk (Kd.S_below (by (with_reducible repeat (first | apply Kd.S_alloc | apply Kd.S_drewN | apply Kd.S_drew)); exact HO170.out) hb); have n1_ := Aside0.mk (Kd.S_below (by (with_reducible repeat (first | apply Kd.S_alloc | apply Kd.S_drewN | apply Kd.S_drew)); exact HO173.out) hb); have n2_ := Aside0.mk (Kd.R_elder' (by (with_reducible repeat (first | apply Kd.R_alloc | apply Kd.R_drewN | apply Kd.R_drew)); exact HO176.out) (Kd.R_base ho0) hb); have n3_ := Aside0.mk (Kd.R_lower (Kd.R_mono (Kd.R_bound ho0) (fun k_ hk_ => (Nat.le_trans HN1.out hk_.2.1 : w23.heap.size ≤ k_))) (SE.bb_size (by repeat (first | (with_reducible first | exact HB.out | apply SE.bb_alloc | apply SE.bb_drewN | apply SE.bb_drew1) | exact HB.out)))); have n4_ := Aside0.mk (SE.bb_step (by repeat (first | (with_reducible first | exact HB.out | apply SE.bb_alloc | apply SE.bb_drewN | apply SE.bb_drew1) | exact HB.out)) hb); clear HO170; clear HO173; clear HO176; clear HB; have HO170 := n0_; have HO173 := n1_; have HO176 := n2_; have HO179 := n3_; have HB := n4_; clear n0_ n1_ n2_ n3_ n4_; (try clear hb); (try clear hb2); (try clear hk); (try clear hi); (try clear ho0); obtain ⟨Ao26, co26, eo26⟩ := Kd.R_slice HO176.out; subst eo26; obtain ⟨Ao27, co27, eo27⟩ := Kd.R_slice HO179.out; subst eo27) | (go_at_call 12; (with_reducible refine (sobriquetkeep_Ints.calls k _ _ t174 _ _ t177 true _ ?side1 ?side2 ?side3 ?side4 A12.out).mono ?_); (case side1 => repeat (first | exact (Kd.R_reads' HO176.out).2.2 | (with_reducible refine Kd.C_alloc ?_ _) | (with_reducible refine Kd.C_drewN ?_ _) | (with_reducible refine Kd.C_drew ?_))); (case side2 => exact (Kd.R_reads' HO176.out).2.1); (case side3 => repeat (first | exact (Kd.R_reads' HO179.out).2.2 | (with_reducible refine Kd.C_alloc ?_ _) | (with_reducible refine Kd.C_drewN ?_ _) | (with_reducible refine Kd.C_drew ?_))); (case side4 => exact (Kd.R_reads' HO179.out).2.1); rintro e w' ⟨rfl, ⟨nd, rfl⟩⟩; (try first | exact ⟨rfl, _, World.drewN_drewN _ _ _⟩ | exact ⟨rfl, _, Eq.trans (World.drewN_drewN _ _ _) (congrArg (World.drewN _) (Nat.add_assoc _ _ _))⟩); obtain ⟨Ao28, co28, eo28⟩ := Kd.S_slice HO173.out; subst eo28) | (go_at_call 13; (with_reducible refine (sets_Sorted.calls _ _ t168 t181 _ ?side1 ?side2 A15.out).mono ?_); (case side1 => repeat (first | exact (Kd.S_reads' HO170.out).2.2 | (with_reducible refine Kd.C_alloc ?_ _) | (with_reducible refine Kd.C_drewN ?_ _) | (with_reducible refine Kd.C_drew ?_))); (case side2 => exact (Kd.S_reads' HO170.out).2.1); rintro e w' ⟨rfl, ⟨nd, rfl⟩⟩; (try first | exact ⟨rfl, _, World.drewN_drewN _ _ _⟩ | exact ⟨rfl, _, Eq.trans (World.drewN_drewN _ _ _) (congrArg (World.drewN _) (Nat.add_assoc _ _ _))⟩)) | (go_at_call 14; (with_reducible refine (sobriquetref01_Sorted.calls k _ _ l0 t182 _ ?side1 ?side2 A16.out).mono ?_); (case side1 => repeat (first | exact (Kd.C_below HR0.out (show SE.BB w wz _ from by repeat (first | (with_reducible first | exact HB.out | apply SE.bb_alloc | apply SE.bb_drewN | apply SE.bb_drew1) | exact HB.out)).1) | (with_reducible refine Kd.C_alloc ?_ _) | (with_reducible refine Kd.C_drewN ?_ _) | (with_reducible refine Kd.C_drew ?_))); (case side2 => exact HC0.out); rintro e w' ⟨rfl, ⟨nd, rfl⟩⟩; (try first | exact ⟨rfl, _, World.drewN_drewN _ _ _⟩ | exact ⟨rfl, _, Eq.trans (World.drewN_drewN _ _ _) (congrArg (World.drewN _) (Nat.add_assoc _ _ _))⟩)) | (go_at_call 15; (with_reducible refine (sets_Compare.calls _ _ l1 _ _ l2 t183 _ ?side1 ?side2 ?side3 ?side4 A18.out).mono ?_); (case side1 => repeat (first | exact (Kd.C_below HR1.out (show SE.BB w wz _ from by repeat (first | (with_reducible first | exact HB.out | apply SE.bb_alloc | apply SE.bb_drewN | apply SE.bb_drew1) | exact HB.out)).1) | (with_reducible refine Kd.C_alloc ?_ _) | (with_reducible refine Kd.C_drewN ?_ _) | (with_reducible refine Kd.C_drew ?_))); (case side2 => exact HC1.out); (case side3 => repeat (first | exact (Kd.C_below HR2.out (show SE.BB w wz _ from by repeat (first | (with_reducible first | exact HB.out | apply SE.bb_alloc | apply SE.bb_drewN | apply SE.bb_drew1) | exact HB.out)).1) | (with_reducible refine Kd.C_alloc ?_ _) | (with_reducible refine Kd.C_drewN ?_ _) | (with_reducible refine Kd.C_drew ?_))); (case side4 => exact HC2.out); rintro e w' ⟨rfl, ⟨nd, rfl⟩⟩; (try first | exact ⟨rfl, _, World.drewN_drewN _ _ _⟩ | exact ⟨rfl, _, Eq.trans (World.drewN_drewN _ _ _) (congrArg (World.drewN _) (Nat.add_assoc _ _ _))⟩)) | (go_at_call 16; (with_reducible refine (sobriquetref01_Compare.calls k _ _ l1 _ _ l2 t184 _ ?side1 ?side2 ?side3 ?side4 A19.out).mono ?_); (case side1 => repeat (first | exact (Kd.C_below HR1.out (show SE.BB w wz _ from by repeat (first | (with_reducible first | exact HB.out | apply SE.bb_alloc | apply SE.bb_drewN | apply SE.bb_drew1) | exact HB.out)).1) | (with_reducible refine Kd.C_alloc ?_ _) | (with_reducible refine Kd.C_drewN ?_ _) | (with_reducible refine Kd.C_drew ?_))); (case side2 => exact HC1.out); (case side3 => repeat (first | exact (Kd.C_below HR2.out (show SE.BB w wz _ from by repeat (first | (with_reducible first | exact HB.out | apply SE.bb_alloc | apply SE.bb_drewN | apply SE.bb_drew1) | exact HB.out)).1) | (with_reducible refine Kd.C_alloc ?_ _) | (with_reducible refine Kd.C_drewN ?_ _) | (with_reducible refine Kd.C_drew ?_))); (case side4 => exact HC2.out); rintro e w' ⟨rfl, ⟨nd, rfl⟩⟩; (try first | exact ⟨rfl, _, World.drewN_drewN _ _ _⟩ | exact ⟨rfl, _, Eq.trans (World.drewN_drewN _ _ _) (congrArg (World.drewN _) (Nat.add_assoc _ _ _))⟩))))
                go_loopg [11] k (fun kq v11 w' => ∃ (y8_1 : List (List Int)) (x11_1 : Int), v11 = .int .i64 x11_1 ∧ Aside0 (sobriquetlaw04_SetsExact.l0 kq l0 t168 t171 y8_1 t177 x11_1 = some r) ∧ Aside0 (kq ≤ k) ∧ Aside0 (Kd.S (Kd.slice 5 (Kd.int .u8)) 23 w' wz.heap.size (fun k_ => k_ < w23.heap.size) (.slice Ao28 t171.length co28) y8_1) ∧ Aside0 (Kd.R (Kd.int .i64) 3 w' w.heap.size (fun k_ => w23.heap.size ≤ k_) (.slice Ao27 t177.length co27) t177) ∧ Aside0 (SE.BB w wz w'))
                case atStart => exact ⟨t171, (0), (by first | rfl | (simp; done) | (simp [*]; done)), H', ⟨Nat.le_refl _⟩, ⟨by (with_reducible repeat (first | apply Kd.S_alloc | apply Kd.S_drewN | apply Kd.S_drew)); exact HO173.out⟩, ⟨by (with_reducible repeat (first | apply Kd.R_alloc | apply Kd.R_drewN | apply Kd.R_drew)); exact HO179.out⟩, ⟨by repeat (first | (with_reducible first | exact HB.out | apply SE.bb_alloc | apply SE.bb_drewN | apply SE.bb_drew1) | exact HB.out)⟩⟩
                case round =>
                  clear H'
                  try clear c1
                  try clear c2
                  try clear p2
                  try clear c3
                  try clear c5
                  try clear c6
                  try clear c6b0
                  try clear c6b1
                  try clear c7
                  try clear c7b0
                  try clear c7b1
                  try clear c13
                  try clear c14
                  try clear c14b0
                  try clear c14b1
                  try clear c14b2
                  try clear c17
                  try clear c17b0
                  try clear c17b1
                  try clear c17b2
                  try clear c20
                  try clear c20b0
                  try clear c20b1
                  obtain ⟨y8_1, x11_1, rfl, HA, HK1, HO_8, HO_10, HB⟩ := hrel
                  cases gk with
                  | zero => exact absurd HA.out (by simp [sobriquetlaw04_SetsExact.l0])
                  | succ k1 =>
                    have H := HA.out
                    clear HA
                    simp only [sobriquetlaw04_SetsExact.l0] at H
                    by_cases c29 : x11_1 < (t171.length : Int)
                    · rw [if_pos c29] at H
                      have c29b0 : decide (x11_1 < (t171.length : Int)) = true := decide_eq_true c29
                      clear c29
                      by_cases c30 : 0 ≤ x11_1
                      · rw [if_pos c30] at H
                        have c30b0 : decide (0 ≤ x11_1) = true := decide_eq_true c30
                        clear c30
                        by_cases c31 : x11_1 < (t177.length : Int)
                        · rw [if_pos c31] at H
                          have c31b0 : decide (x11_1 < (t177.length : Int)) = true := decide_eq_true c31
                          clear c31
                          by_cases c32 : 0 ≤ (rd t177 x11_1)
                          · rw [if_pos c32] at H
                            have c32b0 : decide (0 ≤ (rd t177 x11_1)) = true := decide_eq_true c32
                            clear c32
                            by_cases c33 : (rd t177 x11_1) < (l0.length : Int)
                            · rw [if_pos c33] at H
                              have c33b0 : decide ((rd t177 x11_1) < (l0.length : Int)) = true := decide_eq_true c33
                              clear c33
                              replace H := Option.bind_eq_some_iff.mp H
                              obtain ⟨t188, A340, H⟩ := H
                              replace H : (if t188 = true then ((sobriquetkeep_OverBytes.f k1 (rd_L1 y8_1 x11_1)).bind fun z8 => (sobriquetlaw04_SetsExact.l0 k1 l0 t168 t171 (y8_1.set x11_1.toNat z8) t177 (wrap64 (x11_1 + 1)))) else (some false)) = some r := H
                              have A34 := Aside0.mk A340
                              clear A340
                              by_cases c35 : t188 = true
                              · subst c35
                                have H1 : ((sobriquetkeep_OverBytes.f k1 (rd_L1 y8_1 x11_1)).bind fun z8 => (sobriquetlaw04_SetsExact.l0 k1 l0 t168 t171 (y8_1.set x11_1.toNat z8) t177 (wrap64 (x11_1 + 1)))) = some r := by rw [if_pos rfl] at H; exact H
                                clear H
                                have H := H1
                                clear H1
                                replace H := Option.bind_eq_some_iff.mp H
                                obtain ⟨z8, A360, H⟩ := H
                                replace H : (sobriquetlaw04_SetsExact.l0 k1 l0 t168 t171 (y8_1.set x11_1.toNat z8) t177 (wrap64 (x11_1 + 1))) = some r := H
                                have A36 := Aside0.mk A360
                                clear A360
                                have H' := Aside0.mk H
                                clear H
                                have p185 : 0 ≤ (x11_1 : Int) := of_decide_eq_true (by first | (with_reducible assumption) | assumption)
                                have q185 : x11_1 < (t171.length : Int) := of_decide_eq_true (by first | (with_reducible assumption) | assumption)
                                obtain ⟨ad185, A185_0, c185_0, e185, hx185_0, hl185_0, hi185_0⟩ := at_L1 (Kd.S_reads' HO_8.out).2.2 x11_1 p185 (by rw [← (Kd.S_reads' HO_8.out).1]; exact q185)
                                cases e185
                                obtain ⟨ce185, hce185, hMe185, hcc185⟩ := Kd.S_get HO_8.out [] x11_1 p185 (by first | exact q185 | exact of_decide_eq_true (by first | (with_reducible assumption) | assumption) | (have e_ := (Kd.S_reads' HO_8.out).1; omega))
                                obtain ⟨ve185_0, rfl, ge185_0⟩ := hMe185
                                have hv185_0 := hcc185 0 _ rfl
                                rw [Nat.add_zero, show ((Kd.slice 5 (Kd.int .u8))).sz = 1 from rfl, Nat.mul_one] at hv185_0
                                replace hv185_0 := Option.some.inj (hv185_0.symm.trans hx185_0)
                                rw [hv185_0] at ge185_0
                                have HL185_0 := Aside0.mk (show Kd.R (Kd.int .u8) 5 _ _ _ _ (rd_L1 y8_1 x11_1) from ge185_0)
                                clear hv185_0 ge185_0
                                clear hcc185 hce185
                                have HR185_0 := Aside0.mk hi185_0
                                have HC185_0 := Aside0.mk hl185_0
                                clear hi185_0 hl185_0
                                replace p185 := eq_true p185
                                replace q185 := eq_true q185
                                have p186 : 0 ≤ (x11_1 : Int) := of_decide_eq_true (by first | (with_reducible assumption) | assumption)
                                have q186 : x11_1 < (t177.length : Int) := of_decide_eq_true (by first | (with_reducible assumption) | assumption)
                                obtain ⟨ad186, e186, hx186_0⟩ := Kd.at_int (Kd.R_reads' HO_10.out).2.2 x11_1 p186 q186
                                cases e186
                                replace p186 := eq_true p186
                                replace q186 := eq_true q186
                                have p187 : 0 ≤ ((rd t177 x11_1) : Int) := of_decide_eq_true (by first | (with_reducible assumption) | assumption)
                                have q187 : (rd t177 x11_1) < (l0.length : Int) := of_decide_eq_true (by first | (with_reducible assumption) | assumption)
                                obtain ⟨ad187, A187_0, c187_0, e187, hx187_0, hl187_0, hi187_0⟩ := at_L1 HR0.out (rd t177 x11_1) p187 q187
                                cases e187
                                replace hx187_0 := (HB.out.1.cell (World.block_lt_of_cell? w _ hx187_0)).trans hx187_0
                                have HR187_0 := Aside0.mk hi187_0
                                have HC187_0 := Aside0.mk hl187_0
                                clear hi187_0 hl187_0
                                replace p187 := eq_true p187
                                replace q187 := eq_true q187
                                go_wp2_with (first | (go_at_call 17; (with_reducible refine (sobriquetkeep_Bytes.calls k1 _ _ (rd_L1 y8_1 x11_1) _ _ (rd_L1 l0 (rd t177 x11_1)) true _ ?side1 ?side2 ?side3 ?side4 A34.out).mono ?_); (case side1 => repeat (first | exact (by repeat (first | (with_reducible exact HR185_0.out) | (with_reducible refine Kd.C_alloc ?_ _) | (with_reducible refine Kd.C_drewN ?_ _) | (with_reducible refine Kd.C_drew ?_) | exact HR185_0.out)) | (with_reducible refine Kd.C_alloc ?_ _) | (with_reducible refine Kd.C_drewN ?_ _) | (with_reducible refine Kd.C_drew ?_))); (case side2 => exact HC185_0.out); (case side3 => repeat (first | exact (Kd.C_below HR187_0.out HB.out.1) | (with_reducible refine Kd.C_alloc ?_ _) | (with_reducible refine Kd.C_drewN ?_ _) | (with_reducible refine Kd.C_drew ?_))); (case side4 => exact HC187_0.out); rintro e w' ⟨rfl, ⟨nd, rfl⟩⟩; (try first | exact ⟨rfl, _, World.drewN_drewN _ _ _⟩ | exact ⟨rfl, _, Eq.trans (World.drewN_drewN _ _ _) (congrArg (World.drewN _) (Nat.add_assoc _ _ _))⟩); have p189 : 0 ≤ (x11_1 : Int) := of_decide_eq_true (by first | (with_reducible assumption) | assumption); have q189 : x11_1 < (t171.length : Int) := of_decide_eq_true (by first | (with_reducible assumption) | assumption); obtain ⟨ad189, A189_0, c189_0, e189, hx189_0, hl189_0, hi189_0⟩ := at_L1 (Kd.S_reads' HO_8.out).2.2 x11_1 p189 (by rw [← (Kd.S_reads' HO_8.out).1]; exact q189); obtain rfl : ad185 = ad189 := (by injection e189); obtain ⟨ce189, hce189, hMe189, hcc189⟩ := Kd.S_get HO_8.out [] x11_1 p189 (by first | exact q189 | exact of_decide_eq_true (by first | (with_reducible assumption) | assumption) | (have e_ := (Kd.S_reads' HO_8.out).1; omega)); obtain ⟨ve189_0, rfl, ge189_0⟩ := hMe189; have hv189_0 := hcc189 0 _ rfl; rw [Nat.add_zero, show ((Kd.slice 5 (Kd.int .u8))).sz = 1 from rfl, Nat.mul_one] at hv189_0; replace hv189_0 := Option.some.inj (hv189_0.symm.trans hx189_0); rw [hv189_0] at ge189_0; have HL189_0 := Aside0.mk (show Kd.R (Kd.int .u8) 5 _ _ _ _ (rd_L1 y8_1 x11_1) from ge189_0); clear hv189_0 ge189_0; clear hcc189 hce189; have HR189_0 := Aside0.mk hi189_0; have HC189_0 := Aside0.mk hl189_0; clear hi189_0 hl189_0; obtain ⟨oki8, hok8, ge8, hbk8⟩ := SE.over_elem HO_8.out p189 q189 hx189_0; have HOK8 := Aside0.mk hok8; have GE8 := Aside0.mk ge8; have HBK8 := Aside0.mk hbk8; clear hok8 ge8 hbk8; replace p189 := eq_true p189; replace q189 := eq_true q189; have ea_ := Option.some.inj (hx185_0.symm.trans hx189_0); injection ea_ with ea_ en_ ec_; subst ea_; subst ec_; clear en_) | (go_at_call 18; (with_reducible refine (sobriquetkeep_OverBytes.calls k1 oki8 _ (rd_L1 y8_1 x11_1) z8 wz _ ?side1 ?side2 A36.out).mono ?_); (case side1 => exact (show SE.BB w wz _ from by repeat (first | (with_reducible first | exact HB.out | apply SE.bb_alloc | apply SE.bb_drewN | apply SE.bb_drew1) | exact HB.out)).2); (case side2 => repeat (first | exact GE8.out | (with_reducible refine Kd.R_alloc ?_ _) | (with_reducible refine Kd.R_drewN ?_ _) | (with_reducible refine Kd.R_drew ?_))); rintro e w40 ⟨rfl, hr, hb, hk⟩; have n0_ := Aside0.mk (HBK8.out _ _ _ hk hr); have n1_ := Aside0.mk (Kd.R_kept (by (with_reducible repeat (first | apply Kd.R_alloc | apply Kd.R_drewN | apply Kd.R_drew)); exact HO_10.out) hk (fun k_ h1_ h2_ => absurd (HOK8.out k_ h2_) (Nat.not_lt.2 h1_))); have n2_ := Aside0.mk (show SE.BB w wz w40 from ⟨below_step HZ.out hb, hb⟩); clear HO_8; clear HO_10; clear HB; have HO_8 := n0_; have HO_10 := n1_; have HB := n2_; clear n0_ n1_ n2_ hr hb hk))
                                repeat (go_quiet (first | (go_at_call 17; (with_reducible refine (sobriquetkeep_Bytes.calls k1 _ _ (rd_L1 y8_1 x11_1) _ _ (rd_L1 l0 (rd t177 x11_1)) true _ ?side1 ?side2 ?side3 ?side4 A34.out).mono ?_); (case side1 => repeat (first | exact (by repeat (first | (with_reducible exact HR185_0.out) | (with_reducible refine Kd.C_alloc ?_ _) | (with_reducible refine Kd.C_drewN ?_ _) | (with_reducible refine Kd.C_drew ?_) | exact HR185_0.out)) | (with_reducible refine Kd.C_alloc ?_ _) | (with_reducible refine Kd.C_drewN ?_ _) | (with_reducible refine Kd.C_drew ?_))); (case side2 => exact HC185_0.out); (case side3 => repeat (first | exact (Kd.C_below HR187_0.out HB.out.1) | (with_reducible refine Kd.C_alloc ?_ _) | (with_reducible refine Kd.C_drewN ?_ _) | (with_reducible refine Kd.C_drew ?_))); (case side4 => exact HC187_0.out); rintro e w' ⟨rfl, ⟨nd, rfl⟩⟩; (try first | exact ⟨rfl, _, World.drewN_drewN _ _ _⟩ | exact ⟨rfl, _, Eq.trans (World.drewN_drewN _ _ _) (congrArg (World.drewN _) (Nat.add_assoc _ _ _))⟩); have p189 : 0 ≤ (x11_1 : Int) := of_decide_eq_true (by first | (with_reducible assumption) | assumption); have q189 : x11_1 < (t171.length : Int) := of_decide_eq_true (by first | (with_reducible assumption) | assumption); obtain ⟨ad189, A189_0, c189_0, e189, hx189_0, hl189_0, hi189_0⟩ := at_L1 (Kd.S_reads' HO_8.out).2.2 x11_1 p189 (by rw [← (Kd.S_reads' HO_8.out).1]; exact q189); obtain rfl : ad185 = ad189 := (by injection e189); obtain ⟨ce189, hce189, hMe189, hcc189⟩ := Kd.S_get HO_8.out [] x11_1 p189 (by first | exact q189 | exact of_decide_eq_true (by first | (with_reducible assumption) | assumption) | (have e_ := (Kd.S_reads' HO_8.out).1; omega)); obtain ⟨ve189_0, rfl, ge189_0⟩ := hMe189; have hv189_0 := hcc189 0 _ rfl; rw [Nat.add_zero, show ((Kd.slice 5 (Kd.int .u8))).sz = 1 from rfl, Nat.mul_one] at hv189_0; replace hv189_0 := Option.some.inj (hv189_0.symm.trans hx189_0); rw [hv189_0] at ge189_0; have HL189_0 := Aside0.mk (show Kd.R (Kd.int .u8) 5 _ _ _ _ (rd_L1 y8_1 x11_1) from ge189_0); clear hv189_0 ge189_0; clear hcc189 hce189; have HR189_0 := Aside0.mk hi189_0; have HC189_0 := Aside0.mk hl189_0; clear hi189_0 hl189_0; obtain ⟨oki8, hok8, ge8, hbk8⟩ := SE.over_elem HO_8.out p189 q189 hx189_0; have HOK8 := Aside0.mk hok8; have GE8 := Aside0.mk ge8; have HBK8 := Aside0.mk hbk8; clear hok8 ge8 hbk8; replace p189 := eq_true p189; replace q189 := eq_true q189; have ea_ := Option.some.inj (hx185_0.symm.trans hx189_0); injection ea_ with ea_ en_ ec_; subst ea_; subst ec_; clear en_) | (go_at_call 18; (with_reducible refine (sobriquetkeep_OverBytes.calls k1 oki8 _ (rd_L1 y8_1 x11_1) z8 wz _ ?side1 ?side2 A36.out).mono ?_); (case side1 => exact (show SE.BB w wz _ from by repeat (first | (with_reducible first | exact HB.out | apply SE.bb_alloc | apply SE.bb_drewN | apply SE.bb_drew1) | exact HB.out)).2); (case side2 => repeat (first | exact GE8.out | (with_reducible refine Kd.R_alloc ?_ _) | (with_reducible refine Kd.R_drewN ?_ _) | (with_reducible refine Kd.R_drew ?_))); rintro e w40 ⟨rfl, hr, hb, hk⟩; have n0_ := Aside0.mk (HBK8.out _ _ _ hk hr); have n1_ := Aside0.mk (Kd.R_kept (by (with_reducible repeat (first | apply Kd.R_alloc | apply Kd.R_drewN | apply Kd.R_drew)); exact HO_10.out) hk (fun k_ h1_ h2_ => absurd (HOK8.out k_ h2_) (Nat.not_lt.2 h1_))); have n2_ := Aside0.mk (show SE.BB w wz w40 from ⟨below_step HZ.out hb, hb⟩); clear HO_8; clear HO_10; clear HB; have HO_8 := n0_; have HO_10 := n1_; have HB := n2_; clear n0_ n1_ n2_ hr hb hk)); try go_wp2_with (first | (go_at_call 17; (with_reducible refine (sobriquetkeep_Bytes.calls k1 _ _ (rd_L1 y8_1 x11_1) _ _ (rd_L1 l0 (rd t177 x11_1)) true _ ?side1 ?side2 ?side3 ?side4 A34.out).mono ?_); (case side1 => repeat (first | exact (by repeat (first | (with_reducible exact HR185_0.out) | (with_reducible refine Kd.C_alloc ?_ _) | (with_reducible refine Kd.C_drewN ?_ _) | (with_reducible refine Kd.C_drew ?_) | exact HR185_0.out)) | (with_reducible refine Kd.C_alloc ?_ _) | (with_reducible refine Kd.C_drewN ?_ _) | (with_reducible refine Kd.C_drew ?_))); (case side2 => exact HC185_0.out); (case side3 => repeat (first | exact (Kd.C_below HR187_0.out HB.out.1) | (with_reducible refine Kd.C_alloc ?_ _) | (with_reducible refine Kd.C_drewN ?_ _) | (with_reducible refine Kd.C_drew ?_))); (case side4 => exact HC187_0.out); rintro e w' ⟨rfl, ⟨nd, rfl⟩⟩; (try first | exact ⟨rfl, _, World.drewN_drewN _ _ _⟩ | exact ⟨rfl, _, Eq.trans (World.drewN_drewN _ _ _) (congrArg (World.drewN _) (Nat.add_assoc _ _ _))⟩); have p189 : 0 ≤ (x11_1 : Int) := of_decide_eq_true (by first | (with_reducible assumption) | assumption); have q189 : x11_1 < (t171.length : Int) := of_decide_eq_true (by first | (with_reducible assumption) | assumption); obtain ⟨ad189, A189_0, c189_0, e189, hx189_0, hl189_0, hi189_0⟩ := at_L1 (Kd.S_reads' HO_8.out).2.2 x11_1 p189 (by rw [← (Kd.S_reads' HO_8.out).1]; exact q189); obtain rfl : ad185 = ad189 := (by injection e189); obtain ⟨ce189, hce189, hMe189, hcc189⟩ := Kd.S_get HO_8.out [] x11_1 p189 (by first | exact q189 | exact of_decide_eq_true (by first | (with_reducible assumption) | assumption) | (have e_ := (Kd.S_reads' HO_8.out).1; omega)); obtain ⟨ve189_0, rfl, ge189_0⟩ := hMe189; have hv189_0 := hcc189 0 _ rfl; rw [Nat.add_zero, show ((Kd.slice 5 (Kd.int .u8))).sz = 1 from rfl, Nat.mul_one] at hv189_0; replace hv189_0 := Option.some.inj (hv189_0.symm.trans hx189_0); rw [hv189_0] at ge189_0; have HL189_0 := Aside0.mk (show Kd.R (Kd.int .u8) 5 _ _ _ _ (rd_L1 y8_1 x11_1) from ge189_0); clear hv189_0 ge189_0; clear hcc189 hce189; have HR189_0 := Aside0.mk hi189_0; have HC189_0 := Aside0.mk hl189_0; clear hi189_0 hl189_0; obtain ⟨oki8, hok8, ge8, hbk8⟩ := SE.over_elem HO_8.out p189 q189 hx189_0; have HOK8 := Aside0.mk hok8; have GE8 := Aside0.mk ge8; have HBK8 := Aside0.mk hbk8; clear hok8 ge8 hbk8; replace p189 := eq_true p189; replace q189 := eq_true q189; have ea_ := Option.some.inj (hx185_0.symm.trans hx189_0); injection ea_ with ea_ en_ ec_; subst ea_; subst ec_; clear en_) | (go_at_call 18; (with_reducible refine (sobriquetkeep_OverBytes.calls k1 oki8 _ (rd_L1 y8_1 x11_1) z8 wz _ ?side1 ?side2 A36.out).mono ?_); (case side1 => exact (show SE.BB w wz _ from by repeat (first | (with_reducible first | exact HB.out | apply SE.bb_alloc | apply SE.bb_drewN | apply SE.bb_drew1) | exact HB.out)).2); (case side2 => repeat (first | exact GE8.out | (with_reducible refine Kd.R_alloc ?_ _) | (with_reducible refine Kd.R_drewN ?_ _) | (with_reducible refine Kd.R_drew ?_))); rintro e w40 ⟨rfl, hr, hb, hk⟩; have n0_ := Aside0.mk (HBK8.out _ _ _ hk hr); have n1_ := Aside0.mk (Kd.R_kept (by (with_reducible repeat (first | apply Kd.R_alloc | apply Kd.R_drewN | apply Kd.R_drew)); exact HO_10.out) hk (fun k_ h1_ h2_ => absurd (HOK8.out k_ h2_) (Nat.not_lt.2 h1_))); have n2_ := Aside0.mk (show SE.BB w wz w40 from ⟨below_step HZ.out hb, hb⟩); clear HO_8; clear HO_10; clear HB; have HO_8 := n0_; have HO_10 := n1_; have HB := n2_; clear n0_ n1_ n2_ hr hb hk)))
                                go_roundg k1
                                case measure => have := HK1.out; omega
                                case rel => exact ⟨(y8_1.set x11_1.toNat z8), (wrap64 (x11_1 + 1)), (by first | rfl | (simp; done) | (simp [*]; done)), H', ⟨by have := HK1.out; omega⟩, ⟨by (with_reducible repeat (first | apply Kd.S_alloc | apply Kd.S_drewN | apply Kd.S_drew)); exact HO_8.out⟩, ⟨by (with_reducible repeat (first | apply Kd.R_alloc | apply Kd.R_drewN | apply Kd.R_drew)); exact HO_10.out⟩, ⟨by repeat (first | (with_reducible first | exact HB.out | apply SE.bb_alloc | apply SE.bb_drewN | apply SE.bb_drew1) | exact HB.out)⟩⟩
                              · replace c35 := Bool.eq_false_iff.mpr c35
                                subst c35
                                have H1 : (some false) = some r := by rw [if_neg (show ¬ (false = true) by decide)] at H; exact H
                                clear H
                                have H := H1
                                clear H1
                                exact absurd ((Option.some.inj H).trans hrt.out) (by decide)
                            · rw [if_neg c33] at H
                              exact absurd H (by simp)
                          · rw [if_neg c32] at H
                            exact absurd H (by simp)
                        · rw [if_neg c31] at H
                          exact absurd H (by simp)
                      · rw [if_neg c30] at H
                        exact absurd H (by simp)
                    · rw [if_neg c29] at H
                      have c29b0 : decide (x11_1 < (t171.length : Int)) = false := decide_eq_false c29
                      clear c29
                      replace H := Option.bind_eq_some_iff.mp H
                      obtain ⟨t190, A370, H⟩ := H
                      replace H : (if t190 = true then ((sobriquetlaw04_wakes.f k1).bind fun t191 => (some t191)) else (some false)) = some r := H
                      have A37 := Aside0.mk A370
                      clear A370
                      by_cases c38 : t190 = true
                      · subst c38
                        have H1 : ((sobriquetlaw04_wakes.f k1).bind fun t191 => (some t191)) = some r := by rw [if_pos rfl] at H; exact H
                        clear H
                        have H := H1
                        clear H1
                        replace H := Option.bind_eq_some_iff.mp H
                        obtain ⟨t191, A390, H⟩ := H
                        replace H : (some t191) = some r := H
                        have A39 := Aside0.mk A390
                        clear A390
                        obtain rfl := Option.some.inj H
                        go_wp2_with (first | (go_at_call 19; (with_reducible refine (sobriquetkeep_Rows.calls k1 _ _ t168 _ _ l0 true _ ?side1 ?side2 ?side3 ?side4 A37.out).mono ?_); (case side1 => repeat (first | exact (Kd.C_below C7.out HB.out.2) | (with_reducible refine Kd.C_alloc ?_ _) | (with_reducible refine Kd.C_drewN ?_ _) | (with_reducible refine Kd.C_drew ?_))); (case side2 => exact C7c.out); (case side3 => repeat (first | exact (Kd.C_below HR0.out HB.out.1) | (with_reducible refine Kd.C_alloc ?_ _) | (with_reducible refine Kd.C_drewN ?_ _) | (with_reducible refine Kd.C_drew ?_))); (case side4 => exact HC0.out); rintro e w' ⟨rfl, ⟨nd, rfl⟩⟩; (try first | exact ⟨rfl, _, World.drewN_drewN _ _ _⟩ | exact ⟨rfl, _, Eq.trans (World.drewN_drewN _ _ _) (congrArg (World.drewN _) (Nat.add_assoc _ _ _))⟩)) | (go_at_call 20; (with_reducible refine (sobriquetlaw04_wakes.calls k1  t191 _ A39.out (by first | exact hrt.out | rfl)).mono ?_); rintro e w40 ⟨rfl, hb⟩; have n1_ := Aside0.mk (Kd.S_below (by (with_reducible repeat (first | apply Kd.S_alloc | apply Kd.S_drewN | apply Kd.S_drew)); exact HO_8.out) hb); have n2_ := Aside0.mk (Kd.R_below (by (with_reducible repeat (first | apply Kd.R_alloc | apply Kd.R_drewN | apply Kd.R_drew)); exact HO_10.out) hb); have n3_ := Aside0.mk (SE.bb_step (by repeat (first | (with_reducible first | exact HB.out | apply SE.bb_alloc | apply SE.bb_drewN | apply SE.bb_drew1) | exact HB.out)) hb); clear HO_8; clear HO_10; clear HB; have HO_8 := n1_; have HO_10 := n2_; have HB := n3_; clear n1_ n2_ n3_; (try clear hb); (try clear hb2); (try clear hk); (try clear hi)))
                        repeat (go_quiet (first | (go_at_call 19; (with_reducible refine (sobriquetkeep_Rows.calls k1 _ _ t168 _ _ l0 true _ ?side1 ?side2 ?side3 ?side4 A37.out).mono ?_); (case side1 => repeat (first | exact (Kd.C_below C7.out HB.out.2) | (with_reducible refine Kd.C_alloc ?_ _) | (with_reducible refine Kd.C_drewN ?_ _) | (with_reducible refine Kd.C_drew ?_))); (case side2 => exact C7c.out); (case side3 => repeat (first | exact (Kd.C_below HR0.out HB.out.1) | (with_reducible refine Kd.C_alloc ?_ _) | (with_reducible refine Kd.C_drewN ?_ _) | (with_reducible refine Kd.C_drew ?_))); (case side4 => exact HC0.out); rintro e w' ⟨rfl, ⟨nd, rfl⟩⟩; (try first | exact ⟨rfl, _, World.drewN_drewN _ _ _⟩ | exact ⟨rfl, _, Eq.trans (World.drewN_drewN _ _ _) (congrArg (World.drewN _) (Nat.add_assoc _ _ _))⟩)) | (go_at_call 20; (with_reducible refine (sobriquetlaw04_wakes.calls k1  t191 _ A39.out (by first | exact hrt.out | rfl)).mono ?_); rintro e w40 ⟨rfl, hb⟩; have n1_ := Aside0.mk (Kd.S_below (by (with_reducible repeat (first | apply Kd.S_alloc | apply Kd.S_drewN | apply Kd.S_drew)); exact HO_8.out) hb); have n2_ := Aside0.mk (Kd.R_below (by (with_reducible repeat (first | apply Kd.R_alloc | apply Kd.R_drewN | apply Kd.R_drew)); exact HO_10.out) hb); have n3_ := Aside0.mk (SE.bb_step (by repeat (first | (with_reducible first | exact HB.out | apply SE.bb_alloc | apply SE.bb_drewN | apply SE.bb_drew1) | exact HB.out)) hb); clear HO_8; clear HO_10; clear HB; have HO_8 := n1_; have HO_10 := n2_; have HB := n3_; clear n1_ n2_ n3_; (try clear hb); (try clear hb2); (try clear hk); (try clear hi))); try go_wp2_with (first | (go_at_call 19; (with_reducible refine (sobriquetkeep_Rows.calls k1 _ _ t168 _ _ l0 true _ ?side1 ?side2 ?side3 ?side4 A37.out).mono ?_); (case side1 => repeat (first | exact (Kd.C_below C7.out HB.out.2) | (with_reducible refine Kd.C_alloc ?_ _) | (with_reducible refine Kd.C_drewN ?_ _) | (with_reducible refine Kd.C_drew ?_))); (case side2 => exact C7c.out); (case side3 => repeat (first | exact (Kd.C_below HR0.out HB.out.1) | (with_reducible refine Kd.C_alloc ?_ _) | (with_reducible refine Kd.C_drewN ?_ _) | (with_reducible refine Kd.C_drew ?_))); (case side4 => exact HC0.out); rintro e w' ⟨rfl, ⟨nd, rfl⟩⟩; (try first | exact ⟨rfl, _, World.drewN_drewN _ _ _⟩ | exact ⟨rfl, _, Eq.trans (World.drewN_drewN _ _ _) (congrArg (World.drewN _) (Nat.add_assoc _ _ _))⟩)) | (go_at_call 20; (with_reducible refine (sobriquetlaw04_wakes.calls k1  t191 _ A39.out (by first | exact hrt.out | rfl)).mono ?_); rintro e w40 ⟨rfl, hb⟩; have n1_ := Aside0.mk (Kd.S_below (by (with_reducible repeat (first | apply Kd.S_alloc | apply Kd.S_drewN | apply Kd.S_drew)); exact HO_8.out) hb); have n2_ := Aside0.mk (Kd.R_below (by (with_reducible repeat (first | apply Kd.R_alloc | apply Kd.R_drewN | apply Kd.R_drew)); exact HO_10.out) hb); have n3_ := Aside0.mk (SE.bb_step (by repeat (first | (with_reducible first | exact HB.out | apply SE.bb_alloc | apply SE.bb_drewN | apply SE.bb_drew1) | exact HB.out)) hb); clear HO_8; clear HO_10; clear HB; have HO_8 := n1_; have HO_10 := n2_; have HB := n3_; clear n1_ n2_ n3_; (try clear hb); (try clear hb2); (try clear hk); (try clear hi))))
                        go_ret
                        exact ⟨by first | rfl | (simp [errW_none, errW_some] <;> rfl) | (simp [*, errW_none, errW_some] <;> rfl), (show SE.BB w wz _ from by repeat (first | (with_reducible first | exact HB.out | apply SE.bb_alloc | apply SE.bb_drewN | apply SE.bb_drew1) | exact HB.out)).1⟩
                      · replace c38 := Bool.eq_false_iff.mpr c38
                        subst c38
                        have H1 : (some false) = some r := by rw [if_neg (show ¬ (false = true) by decide)] at H; exact H
                        clear H
                        have H := H1
                        clear H1
                        exact absurd ((Option.some.inj H).trans hrt.out) (by decide)
              · rw [if_neg c20] at H
                have c20b0 : (t183 == t184) = false := beq_eq_false_iff_ne.mpr c20
                have c20b1 : (t183 != t184) = true := bne_iff_ne.mpr c20
                exact absurd ((Option.some.inj H).trans hrt.out) (by decide)
          · rw [if_neg c14] at H
            have c14b0 : ((t171.length : Int) == (t177.length : Int)) = false := beq_eq_false_iff_ne.mpr c14
            have c14b1 : ((t171.length : Int) != (t177.length : Int)) = true := bne_iff_ne.mpr c14
            have c14b2 : (t171.length == t177.length) = false := by first | simpa using c14 | (simp at c14 ⊢; omega)
            exact absurd ((Option.some.inj H).trans hrt.out) (by decide)
        · replace c13 := Bool.eq_false_iff.mpr c13
          subst c13
          have H1 : (some false) = some r := by rw [if_neg (show ¬ (false = true) by decide)] at H; exact H
          clear H
          have H := H1
          clear H1
          exact absurd ((Option.some.inj H).trans hrt.out) (by decide)

def sobriquetlaw04_SetsExact.Pure : Prop := ∀ (l0 : List (List Int)) (l1 : List Int) (l2 : List Int), l0.length ≤ maxLen → (∀ x ∈ l0, x.length ≤ maxLen ∧ ∀ y ∈ x, (Lit.int .u8 y).wf = true) → l1.length ≤ maxLen → l1.length * 1 ≤ 140737488351232 → (∀ x ∈ l1, (Lit.int .u8 x).wf = true) → l2.length ≤ maxLen → l2.length * 1 ≤ 140737488351232 → (∀ x ∈ l2, (Lit.int .u8 x).wf = true) → ∃ k, sobriquetlaw04_SetsExact.f k l0 l1 l2 = some true
theorem sobriquetlaw04_SetsExact.walk (P : sobriquetlaw04_SetsExact.Pure) (A0 : Option Addr) (c0 : Nat) (l0 : List (List Int)) (a1 : Option Addr) (len1 cap1 : Nat) (z1 : List Int) (a2 : Option Addr) (len2 cap2 : Nat) (z2 : List Int) (w : World) (hr0 : Kd.C (Kd.slice 5 (Kd.int .u8)) w A0 l0.length l0) (hc0 : l0.length ≤ c0) (hm0 : l0.length ≤ maxLen) (hw0 : ∀ x ∈ l0, x.length ≤ maxLen ∧ ∀ y ∈ x, (Lit.int .u8 y).wf = true) (w1 : (a1 = none ∧ len1 = 0 ∧ cap1 = 0 ∧ z1 = []) ∨ ∃ x, a1 = some x ∧ len1 ≤ cap1 ∧ cap1 ≤ maxLen ∧ z1.length = cap1 ∧ (∀ i, i < z1.length → w.cell? (x.add i) = some (.int .u8 (z1.getD i 0))) ∧ ∀ n ∈ z1, (Lit.int .u8 n).wf = true) (y1 : len1 * 1 ≤ 140737488351232) (w2 : (a2 = none ∧ len2 = 0 ∧ cap2 = 0 ∧ z2 = []) ∨ ∃ x, a2 = some x ∧ len2 ≤ cap2 ∧ cap2 ≤ maxLen ∧ z2.length = cap2 ∧ (∀ i, i < z2.length → w.cell? (x.add i) = some (.int .u8 (z2.getD i 0))) ∧ ∀ n ∈ z2, (Lit.int .u8 n).wf = true) (y2 : len2 * 1 ≤ 140737488351232) :
    Calls Try.prog 3 #[.slice A0 l0.length c0, .slice a1 len1 cap1, .slice a2 len2 cap2] w fun e w' => e = .returned (.bool true) ∧ Below w.heap.size w w' := by
  obtain ⟨l1, rfl, hr1, hm1, hw1, hc1⟩ := ReadsInt.ofRowC w1
  obtain ⟨l2, rfl, hr2, hm2, hw2, hc2⟩ := ReadsInt.ofRowC w2
  obtain ⟨k, h⟩ := P l0 l1 l2 hm0 hw0 hm1 y1 hw1 hm2 y2 hw2
  refine (sobriquetlaw04_SetsExact.calls k _ _ l0 _ _ l1 _ _ l2 true w hr0 hc0 (Kd.C_of_reads (d := (0 : Int)) (h1 := fun _ => rfl) hr1) hc1 (Kd.C_of_reads (d := (0 : Int)) (h1 := fun _ => rfl) hr2) hc2 h rfl).mono ?_
  rintro e w' ⟨rfl, hd⟩
  exact ⟨rfl, hd⟩

end Go.Proofs.Ytmhkemgbienfiaa.MSetsExact
