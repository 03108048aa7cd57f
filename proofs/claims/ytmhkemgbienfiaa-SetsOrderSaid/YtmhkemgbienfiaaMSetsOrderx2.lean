/- The contract of the law SetsOrder, walked by hand over the printed contracts of its callees. -/
import Derived.Test.YtmhkemgbienfiaaMSetsOrderx1
namespace Go.Proofs.Ytmhkemgbienfiaa.MSetsOrder
open Go.RowKit Go.Proofs.YtmhkemgbienfiaaW.PrintWords Go.Proofs.YtmhkemgbienfiaaW.PrintLast Go.Proofs.YtmhkemgbienfiaaW.PrintMore
attribute [local go_sem] max2_int min2_int max_two min_two max_three min_three max_four min_four   -- for this text's walks alone
set_option linter.unusedVariables false
set_option linter.unusedSimpArgs false
set_option linter.unnecessarySimpa false

theorem rows3 {w : World} {A0 A1 A2 : Option Addr} {c0 c1 c2 : Nat} {l0 l1 l2 : List Int} (hr0 : Kd.C (Kd.int .u8) w A0 l0.length l0) (hc0 : l0.length ≤ c0) (hr1 : Kd.C (Kd.int .u8) w A1 l1.length l1) (hc1 : l1.length ≤ c1) (hr2 : Kd.C (Kd.int .u8) w A2 l2.length l2) (hc2 : l2.length ≤ c2) (e : Nat) (q : Nat × Nat) :
    Kd.C (Kd.slice 5 (Kd.int .u8)) (w.alloc (.cells #[.slice A0 l0.length c0, .slice A1 l1.length c1, .slice A2 l2.length c2] e q)) (some ⟨w.heap.size, 0, none⟩) ([l0, l1, l2] : List (List Int)).length [l0, l1, l2] := by
  have hb := below_alloc (Below.refl w.heap.size w) (.cells #[.slice A0 l0.length c0, .slice A1 l1.length c1, .slice A2 l2.length c2] e q)
  have h0 := Kd.C_below hr0 hb
  have h1 := Kd.C_below hr1 hb
  have h2 := Kd.C_below hr2 hb
  have hh : (w.alloc (.cells #[.slice A0 l0.length c0, .slice A1 l1.length c1, .slice A2 l2.length c2] e q)).heap[w.heap.size]? = some (.cells #[.slice A0 l0.length c0, .slice A1 l1.length c1, .slice A2 l2.length c2] e q) := by
    show (w.heap.push _)[w.heap.size]? = _
    simp
  have key : ∀ j v, (#[.slice A0 l0.length c0, .slice A1 l1.length c1, .slice A2 l2.length c2] : Array Value)[j]? = some v → (w.alloc (.cells #[.slice A0 l0.length c0, .slice A1 l1.length c1, .slice A2 l2.length c2] e q)).cell? ⟨w.heap.size, j, none⟩ = some v := by
    intro j v hv
    unfold World.cell?
    rw [hh]
    exact hv
  have one : ∀ (v : Value) (j i : Nat) (u : Value), ([v] : List Value)[i]? = some u → (#[.slice A0 l0.length c0, .slice A1 l1.length c1, .slice A2 l2.length c2] : Array Value)[j]? = some v → (w.alloc (.cells #[.slice A0 l0.length c0, .slice A1 l1.length c1, .slice A2 l2.length c2] e q)).cell? ((⟨w.heap.size, 0, none⟩ : Addr).add (j * 1 + i)) = some u := by
    intro v j i u hu hv
    match i, hu with
    | 0, hu =>
      obtain rfl : v = u := by simpa using hu
      rw [add_plain]
      simpa using key j v hv
    | i + 1, hu => simp at hu
  refine ⟨rfl, by simp, fun _ => ⟨_, rfl, fun j p hj => ?_⟩⟩
  match j, hj with
  | 0, hj =>
    obtain rfl : l0 = p := by simpa using hj
    exact ⟨_, rfl, ⟨A0, c0, rfl, hc0, h0⟩, fun i u hu => one _ 0 i u hu rfl⟩
  | 1, hj =>
    obtain rfl : l1 = p := by simpa using hj
    exact ⟨_, rfl, ⟨A1, c1, rfl, hc1, h1⟩, fun i u hu => one _ 1 i u hu rfl⟩
  | 2, hj =>
    obtain rfl : l2 = p := by simpa using hj
    exact ⟨_, rfl, ⟨A2, c2, rfl, hc2, h2⟩, fun i u hu => one _ 2 i u hu rfl⟩
  | j + 3, hj => simp at hj

/-- What is to be shown of the three answers. -/
def OrderOk (x y z v : Int) (e : Bool) : Prop := x = -v ∧ (x = 0 ↔ e = true) ∧ (x = -1 ∨ x = 0 ∨ x = 1) ∧ (y = -1 ∨ y = 0 ∨ y = 1) ∧ (z = -1 ∨ z = 0 ∨ z = 1) ∧ (0 < x ∨ 0 < y ∨ z ≤ 0) ∧ (0 ≤ x ∨ 0 < y ∨ z < 0)
instance (x y z v : Int) (e : Bool) : Decidable (OrderOk x y z v e) := by unfold OrderOk; exact inferInstance
def sobriquetlaw04_SetsOrder.f (k : Nat) (l0 l1 l2 : List Int) : Option Bool :=
  (sobriquetlaw04_Heavy.f k [l0, l1, l2]).bind fun t => if t = true then some true else
    (sobriquetkeep_Bytes.f k l0 l1).bind fun e => if OrderOk (Go.Proofs.Ytmhkemgbienfiaa.Sets.cmpI l0 l1) (Go.Proofs.Ytmhkemgbienfiaa.Sets.cmpI l1 l2) (Go.Proofs.Ytmhkemgbienfiaa.Sets.cmpI l0 l2) (Go.Proofs.Ytmhkemgbienfiaa.Sets.cmpI l1 l0) e then (sobriquetlaw04_wakes.f k) else none

set_option maxHeartbeats 8000000 in
set_option maxRecDepth 100000 in
theorem sobriquetlaw04_SetsOrder.calls (k : Nat) (A0 : Option Addr) (c0 : Nat) (l0 : List Int) (A1 : Option Addr) (c1 : Nat) (l1 : List Int) (A2 : Option Addr) (c2 : Nat) (l2 : List Int) (r : Bool) (w : World) (hr0 : Kd.C (Kd.int .u8) w A0 l0.length l0) (hc0 : l0.length ≤ c0) (hr1 : Kd.C (Kd.int .u8) w A1 l1.length l1) (hc1 : l1.length ≤ c1) (hr2 : Kd.C (Kd.int .u8) w A2 l2.length l2) (hc2 : l2.length ≤ c2) (h : sobriquetlaw04_SetsOrder.f k l0 l1 l2 = some r) (hrt0 : r = true) :
    Calls Try.prog 4 #[.slice A0 l0.length c0, .slice A1 l1.length c1, .slice A2 l2.length c2] w fun e w' => e = .returned (.bool r) ∧ Below w.heap.size w w' := by
  subst hrt0
  unfold sobriquetlaw04_SetsOrder.f at h
  obtain ⟨t, ht, h⟩ := Option.bind_eq_some_iff.mp h
  have hrow := rows3 hr0 hc0 hr1 hc1 hr2 hc2 23 (0, 0)
  have hH : Calls Try.prog 7 #[.slice (some ⟨w.heap.size, 0, none⟩) 3 3] (w.alloc (.cells #[.slice A0 l0.length c0, .slice A1 l1.length c1, .slice A2 l2.length c2] 23)) fun e w' => e = .returned (.bool t) ∧ Drawn0 (w.alloc (.cells #[.slice A0 l0.length c0, .slice A1 l1.length c1, .slice A2 l2.length c2] 23)) w' :=
    sobriquetlaw04_Heavy.calls k _ 3 [l0, l1, l2] t _ hrow (Nat.le_refl _) ht
  have hu22 := Try.underlying22
  cases t with
  | true =>
    clear h hrow hr0 hr1 hr2
    go_enter Try.func4, Try.ntmps4
    go_wp2_with (go_at_call 7; (with_reducible refine hH.mono ?_); rintro e w1 ⟨rfl, ⟨n1, rfl⟩⟩)
    go_ret
    exact ⟨rfl, pw_below_drewN (below_alloc (Below.refl _ _) _) _⟩
  | false =>
    rw [if_neg (by decide)] at h
    obtain ⟨e, he, h⟩ := Option.bind_eq_some_iff.mp h
    by_cases ho : OrderOk (Go.Proofs.Ytmhkemgbienfiaa.Sets.cmpI l0 l1) (Go.Proofs.Ytmhkemgbienfiaa.Sets.cmpI l1 l2) (Go.Proofs.Ytmhkemgbienfiaa.Sets.cmpI l0 l2) (Go.Proofs.Ytmhkemgbienfiaa.Sets.cmpI l1 l0) e
    case neg => rw [if_neg ho] at h; cases h
    rw [if_pos ho] at h
    have c01 := fun (W : World) (hb : Below w.heap.size w W) => Go.Proofs.Ytmhkemgbienfiaa.Sets.compare15 A0 _ c0 l0 A1 _ c1 l1 W (Kd.C_below hr0 hb) (Kd.C_below hr1 hb)
    have c12 := fun (W : World) (hb : Below w.heap.size w W) => Go.Proofs.Ytmhkemgbienfiaa.Sets.compare15 A1 _ c1 l1 A2 _ c2 l2 W (Kd.C_below hr1 hb) (Kd.C_below hr2 hb)
    have c02 := fun (W : World) (hb : Below w.heap.size w W) => Go.Proofs.Ytmhkemgbienfiaa.Sets.compare15 A0 _ c0 l0 A2 _ c2 l2 W (Kd.C_below hr0 hb) (Kd.C_below hr2 hb)
    have c10 := fun (W : World) (hb : Below w.heap.size w W) => Go.Proofs.Ytmhkemgbienfiaa.Sets.compare15 A1 _ c1 l1 A0 _ c0 l0 W (Kd.C_below hr1 hb) (Kd.C_below hr0 hb)
    have cB := fun (W : World) (hb : Below w.heap.size w W) => sobriquetkeep_Bytes.calls k A0 c0 l0 A1 c1 l1 e W (Kd.C_below hr0 hb) hc0 (Kd.C_below hr1 hb) hc1 he
    have cW := fun (W : World) => sobriquetlaw04_wakes.calls k true W h rfl
    generalize Go.Proofs.Ytmhkemgbienfiaa.Sets.cmpI l0 l1 = x at ho c01
    generalize Go.Proofs.Ytmhkemgbienfiaa.Sets.cmpI l1 l2 = y at ho c12
    generalize Go.Proofs.Ytmhkemgbienfiaa.Sets.cmpI l0 l2 = z at ho c02
    generalize Go.Proofs.Ytmhkemgbienfiaa.Sets.cmpI l1 l0 = v at ho c10
    have hB : Below w.heap.size w (w.alloc (.cells #[.slice A0 l0.length c0, .slice A1 l1.length c1, .slice A2 l2.length c2] 23)) := below_alloc (Below.refl _ _) _
    have HB := Aside0.mk hB
    have HR0 := Aside0.mk (And.intro hr0 (And.intro hr1 hr2))
    have C01 := Aside0.mk c01
    have C12 := Aside0.mk c12
    have C02 := Aside0.mk c02
    have C10 := Aside0.mk c10
    have CB := Aside0.mk cB
    have CW := Aside0.mk cW
    clear hr0 hr1 hr2 hrow c01 c12 c02 c10 cB cW hB h ht
    unfold OrderOk at ho
    obtain ⟨o1, o2, o3, o4, o5, o6, o7⟩ := ho
    have ov : v = -x := by omega
    subst ov
    clear o1
    have oe : e = decide (x = 0) := by
      cases e with
      | true => exact (decide_eq_true (o2.2 rfl)).symm
      | false => exact (decide_eq_false (fun q => by have := o2.1 q; cases this)).symm
    clear o2 he
    subst oe
    rcases o3 with rfl | rfl | rfl <;> rcases o4 with rfl | rfl | rfl <;> rcases o5 with rfl | rfl | rfl <;> first | (exfalso; omega) | skip
    all_goals
      clear o6 o7
      go_enter Try.func4, Try.ntmps4
      go_wp2_with (first
        | (go_at_call 7; (with_reducible refine hH.mono ?_); rintro e w1 ⟨rfl, ⟨n1, rfl⟩⟩)
        | (go_at_call 15; (with_reducible refine (C01.out _ (pw_below_drewN HB.out _)).mono ?_); rintro e w1 ⟨rfl, rfl⟩)
        | (go_at_call 15; (with_reducible refine (C12.out _ (pw_below_drewN HB.out _)).mono ?_); rintro e w1 ⟨rfl, rfl⟩)
        | (go_at_call 15; (with_reducible refine (C02.out _ (pw_below_drewN HB.out _)).mono ?_); rintro e w1 ⟨rfl, rfl⟩)
        | (go_at_call 15; (with_reducible refine (C10.out _ (pw_below_drewN HB.out _)).mono ?_); rintro e w1 ⟨rfl, rfl⟩)
        | (go_at_call 17; (with_reducible refine (CB.out _ (pw_below_drewN HB.out _)).mono ?_); rintro e w1 ⟨rfl, ⟨n2, rfl⟩⟩)
        | (go_at_call 20; (with_reducible refine (CW.out _).mono ?_); rintro e w1 ⟨rfl, hb⟩; have HBW := Aside0.mk hb; clear hb))
      go_ret
      exact ⟨rfl, below_step (by repeat (first | exact HB.out | refine pw_below_drewN ?_ _)) HBW.out⟩
def sobriquetlaw04_SetsOrder.Pure : Prop := ∀ (l0 : List Int) (l1 : List Int) (l2 : List Int), l0.length ≤ maxLen → l0.length * 1 ≤ 140737488351232 → (∀ x ∈ l0, (Lit.int .u8 x).wf = true) → l1.length ≤ maxLen → l1.length * 1 ≤ 140737488351232 → (∀ x ∈ l1, (Lit.int .u8 x).wf = true) → l2.length ≤ maxLen → l2.length * 1 ≤ 140737488351232 → (∀ x ∈ l2, (Lit.int .u8 x).wf = true) → ∃ k, sobriquetlaw04_SetsOrder.f k l0 l1 l2 = some true
theorem sobriquetlaw04_SetsOrder.walk (P : sobriquetlaw04_SetsOrder.Pure) (a0 : Option Addr) (len0 cap0 : Nat) (z0 : List Int) (a1 : Option Addr) (len1 cap1 : Nat) (z1 : List Int) (a2 : Option Addr) (len2 cap2 : Nat) (z2 : List Int) (w : World) (w0 : (a0 = none ∧ len0 = 0 ∧ cap0 = 0 ∧ z0 = []) ∨ ∃ x, a0 = some x ∧ len0 ≤ cap0 ∧ cap0 ≤ maxLen ∧ z0.length = cap0 ∧ (∀ i, i < z0.length → w.cell? (x.add i) = some (.int .u8 (z0.getD i 0))) ∧ ∀ n ∈ z0, (Lit.int .u8 n).wf = true) (y0 : len0 * 1 ≤ 140737488351232) (w1 : (a1 = none ∧ len1 = 0 ∧ cap1 = 0 ∧ z1 = []) ∨ ∃ x, a1 = some x ∧ len1 ≤ cap1 ∧ cap1 ≤ maxLen ∧ z1.length = cap1 ∧ (∀ i, i < z1.length → w.cell? (x.add i) = some (.int .u8 (z1.getD i 0))) ∧ ∀ n ∈ z1, (Lit.int .u8 n).wf = true) (y1 : len1 * 1 ≤ 140737488351232) (w2 : (a2 = none ∧ len2 = 0 ∧ cap2 = 0 ∧ z2 = []) ∨ ∃ x, a2 = some x ∧ len2 ≤ cap2 ∧ cap2 ≤ maxLen ∧ z2.length = cap2 ∧ (∀ i, i < z2.length → w.cell? (x.add i) = some (.int .u8 (z2.getD i 0))) ∧ ∀ n ∈ z2, (Lit.int .u8 n).wf = true) (y2 : len2 * 1 ≤ 140737488351232) :
    Calls Try.prog 4 #[.slice a0 len0 cap0, .slice a1 len1 cap1, .slice a2 len2 cap2] w fun e w' => e = .returned (.bool true) ∧ Below w.heap.size w w' := by
  obtain ⟨l0, rfl, hr0, hm0, hw0, hc0⟩ := ReadsInt.ofRowC w0
  obtain ⟨l1, rfl, hr1, hm1, hw1, hc1⟩ := ReadsInt.ofRowC w1
  obtain ⟨l2, rfl, hr2, hm2, hw2, hc2⟩ := ReadsInt.ofRowC w2
  obtain ⟨k, h⟩ := P l0 l1 l2 hm0 y0 hw0 hm1 y1 hw1 hm2 y2 hw2
  refine (sobriquetlaw04_SetsOrder.calls k _ _ l0 _ _ l1 _ _ l2 true w (Kd.C_of_reads (d := (0 : Int)) (h1 := fun _ => rfl) hr0) hc0 (Kd.C_of_reads (d := (0 : Int)) (h1 := fun _ => rfl) hr1) hc1 (Kd.C_of_reads (d := (0 : Int)) (h1 := fun _ => rfl) hr2) hc2 h rfl).mono ?_
  rintro e w' ⟨rfl, hd⟩
  exact ⟨rfl, hd⟩

end Go.Proofs.Ytmhkemgbienfiaa.MSetsOrder
