/- The engine's methods: what is found of an Oid. -/
import Derived.Test.YteclbjjdhckgoaaTh
import Derived.Test.YteclbjjdhckgoaaLAttrExactx2
namespace Go.Proofs.Yteclbjjdhckgoaa.Tb
open Go.Proofs.YteclbjjdhckgoaaW.PrintWords Go.Proofs.YteclbjjdhckgoaaW.PrintLast Go.Proofs.YteclbjjdhckgoaaW.PrintMore
open Go.RowKit Go.Proofs Go.Proofs.Yteclbjjdhckgoaa.LAttrExact
set_option linter.unusedVariables false
set_option linter.unusedSimpArgs false
theorem w64 {x : Int} (h0 : -9223372036854775808 ≤ x) (h1 : x ≤ 9223372036854775807) : wrap64 x = x := by unfold wrap64; omega
theorem w64_nat {i n : Nat} (h : i < n) (hn : n ≤ 4611686018427387904) : wrap64 ((i : Int) + 1) = ((i + 1 : Nat) : Int) := by unfold wrap64; omega
theorem rd_nat (xs : List Int) (i : Nat) (h : i < xs.length) : rd xs (i : Int) = xs[i] := by simp [rd, List.getD_eq_getElem?_getD, List.getElem?_eq_getElem h]
theorem wf64 {a : Int} (h : (Lit.int .i64 a).wf = true) : -9223372036854775808 ≤ a ∧ a ≤ 9223372036854775807 := by
  simpa [Lit.wf, show IntKind.i64.min = -9223372036854775808 from rfl] using h
theorem tdiv_nn {a : Int} (h : 0 ≤ a) (b : Int) : Int.tdiv a b = a / b := Int.tdiv_eq_ediv_of_nonneg h
theorem tmod_nn {a : Int} (h : 0 ≤ a) (b : Int) : Int.tmod a b = a % b := Int.tmod_eq_emod_of_nonneg h
theorem dec_iff (p q : Prop) [Decidable p] [Decidable q] (h : p ↔ q) : decide p = decide q := by simp [h]
theorem dec_t (p : Prop) [Decidable p] (h : p) : decide p = true := by simp [h]
theorem dec_f (p : Prop) [Decidable p] (h : ¬ p) : decide p = false := by simp [h]
theorem tmod_bd (a c : Int) (hc : 0 < c) : -c < Int.tmod a c ∧ Int.tmod a c < c := by
  have h1 := Int.emod_nonneg a (b := c) (by omega)
  have h2 := Int.emod_lt_of_pos a hc
  have h3 : ((c.natAbs : Nat) : Int) = c := by omega
  have h4 := Int.tmod_lt_of_pos a hc
  refine ⟨?_, h4⟩
  rw [Int.tmod_eq_emod]
  split
  · omega
  · rename_i h
    have : a % c ≠ 0 := fun e => h (.inr (Int.dvd_of_emod_eq_zero e))
    omega
theorem w64l (x y : Int) (h : x = y ∧ -9223372036854775808 ≤ y ∧ y ≤ 9223372036854775807) : wrap64 x = y := by rw [h.1]; exact w64 h.2.1 h.2.2
theorem Ints_l0 (a b : List Int) (hl : a.length = b.length) (hm : a.length ≤ 4611686018427387904) : ∀ (d k i : Nat), i + d = a.length → d < k → sobriquetkeep_Ints.l0 k a b (i : Int) = some (decide (a.drop i = b.drop i)) := by
  intro d
  induction d with
  | zero =>
    intro k i hi hk
    obtain ⟨k, rfl⟩ : ∃ m, k = m + 1 := ⟨k - 1, by omega⟩
    simp only [sobriquetkeep_Ints.l0]
    rw [if_neg (by omega), List.drop_eq_nil_of_le (by omega), List.drop_eq_nil_of_le (by omega)]
    simp
  | succ d ih =>
    intro k i hi hk
    obtain ⟨k, rfl⟩ : ∃ m, k = m + 1 := ⟨k - 1, by omega⟩
    have ha : i < a.length := by omega
    have hb : i < b.length := by omega
    simp only [sobriquetkeep_Ints.l0]
    rw [if_pos (by omega), if_pos (by omega), if_pos (by omega), rd_nat a i ha, rd_nat b i hb, w64_nat ha hm, ih k (i + 1) (by omega) (by omega), List.drop_eq_getElem_cons ha, List.drop_eq_getElem_cons hb]
    by_cases h : a[i] = b[i]
    · simp only [h, if_true, List.cons.injEq, true_and]
    · simp only [h, if_false, List.cons.injEq, false_and, decide_false]
theorem Ints_f (a b : List Int) (k : Nat) (hm : a.length ≤ 4611686018427387904) (hk : a.length < k) : sobriquetkeep_Ints.f k a b = some (decide (a = b)) := by
  unfold sobriquetkeep_Ints.f
  by_cases hl : a.length = b.length
  · rw [if_pos (by omega)]
    have := Ints_l0 a b hl hm a.length k 0 (by omega) hk
    simpa using this
  · rw [if_neg (by omega)]
    have : a ≠ b := fun h => hl (by rw [h])
    simp [this]
/-- The cells of one attribute in the row, and what its two rows hold. -/
def ElAt (w : World) (ad : Addr) (i : Nat) (x : S27) (B0 : Option Addr) (b0 : Nat) (B3 : Option Addr) (b3 : Nat) : Prop :=
  (w.cell? (ad.add (i * 4)) = some (.slice B0 x.f0.length b0) ∧ w.cell? ⟨(ad.add (i * 4)).block, (ad.add (i * 4)).off + 1, none⟩ = some (.string x.f1) ∧ w.cell? ⟨(ad.add (i * 4)).block, (ad.add (i * 4)).off + 2, none⟩ = some (.int .i64 x.f2) ∧ w.cell? ⟨(ad.add (i * 4)).block, (ad.add (i * 4)).off + 3, none⟩ = some (.slice B3 x.f3.length b3)) ∧
  (x.f0.length ≤ b0 ∧ Kd.C (Kd.int .i64) w B0 x.f0.length x.f0) ∧ (x.f3.length ≤ b3 ∧ Kd.C (Kd.int .i64) w B3 x.f3.length x.f3)
theorem el_below {w w1 : World} {ad : Addr} {i : Nat} {x : S27} {B0 : Option Addr} {b0 : Nat} {B3 : Option Addr} {b3 : Nat} (h : ElAt w ad i x B0 b0 B3 b3) (hb : Below w.heap.size w w1) : ElAt w1 ad i x B0 b0 B3 b3 := by
  obtain ⟨⟨h0, h1, h2, h3⟩, ⟨h4, h5⟩, h6, h7⟩ := h
  have m : ∀ {p : Addr} {u : Value}, w.cell? p = some u → w1.cell? p = some u := fun hc => (hb.cell (World.block_lt_of_cell? _ _ hc)).trans hc
  exact ⟨⟨m h0, m h1, m h2, m h3⟩, ⟨h4, Kd.C_below h5 hb⟩, h6, Kd.C_below h7 hb⟩
theorem el_all {w : World} {G : Nat} {A : Option Addr} {c : Nat} (h : GAt w G A c) : ∃ ad, A = some ad ∧ ∀ i : Nat, (hi : i < attrsL.length) → ∃ B0 b0 B3 b3, ElAt w ad i attrsL[i] B0 b0 B3 b3 := by
  obtain ⟨_, _, hC⟩ := h
  have hpos : 0 < attrsL.length := by decide
  obtain ⟨ad0, _, _, _, _, e0, _⟩ := at_T27 hC 0 (by omega) (by omega)
  refine ⟨ad0, e0, fun i hi => ?_⟩
  obtain ⟨ad, A0, c0, A3, c3, e, h0, h1, h2, h3, h4, h5, h6, h7⟩ := at_T27 hC (i : Int) (by omega) (by omega)
  obtain rfl : ad0 = ad := Option.some.inj (e0.symm.trans e)
  have er : rd_T27 attrsL (i : Int) = attrsL[i] := by simp [rd_T27, List.getD_eq_getElem?_getD, List.getElem?_eq_getElem hi]
  rw [er] at h0 h1 h2 h3 h4 h5 h6 h7
  exact ⟨A0, c0, A3, c3, ⟨h0, h1, h2, h3⟩, ⟨h4, h5⟩, h6, h7⟩
/-- The first that a test takes. -/
theorem first_of (p : S27 → Bool) : ∀ l : List S27, (∃ (j : Nat) (hj : j < l.length), l.find? p = some l[j] ∧ p l[j] = true ∧ ∀ i (hi : i < j), p (l[i]'(by omega)) = false) ∨ (l.find? p = none ∧ ∀ i (hi : i < l.length), p l[i] = false)
  | [] => .inr ⟨rfl, fun i hi => absurd hi (Nat.not_lt_zero _)⟩
  | x :: r => by
    cases hx : p x with
    | true => exact .inl ⟨0, Nat.succ_pos _, by rw [List.find?_cons_of_pos hx]; rfl, hx, fun i hi => absurd hi (Nat.not_lt_zero _)⟩
    | false =>
      rcases first_of p r with ⟨j, hj, h1, h2, h3⟩ | ⟨h1, h2⟩
      · refine .inl ⟨j + 1, Nat.succ_lt_succ hj, by rw [List.find?_cons_of_neg (by rw [hx]; decide)]; exact h1, h2, fun i hi => ?_⟩
        cases i with
        | zero => exact hx
        | succ i => exact h3 i (by omega)
      · refine .inr ⟨by rw [List.find?_cons_of_neg (by rw [hx]; decide)]; exact h1, fun i hi => ?_⟩
        cases i with
        | zero => exact hx
        | succ i => exact h2 i (by simpa using hi)
theorem attrs_short : ∀ x ∈ attrsL, x.f0.length ≤ 1000 := by decide
theorem attrs_len : attrsL.length = 13 := by decide
set_option maxRecDepth 100000 in
set_option maxHeartbeats 8000000 in
theorem Find_calls (w0 : World) (G : Nat) (A : Option Addr) (c : Nat) (hG : GAt w0 G A c) (A0 : Option Addr) (c0 : Nat) (l0 : List Int) (hr0 : Kd.C (Kd.int .i64) w0 A0 l0.length l0) (hc0 : l0.length ≤ c0) (hl : l0.length ≤ 1000) :
    ∃ B0 b0 B3 b3, (((eFindO l0).getD z27).f0.length ≤ b0 ∧ Kd.C (Kd.int .i64) w0 B0 ((eFindO l0).getD z27).f0.length ((eFindO l0).getD z27).f0) ∧ (((eFindO l0).getD z27).f3.length ≤ b3 ∧ Kd.C (Kd.int .i64) w0 B3 ((eFindO l0).getD z27).f3.length ((eFindO l0).getD z27).f3) ∧
      ∀ w, Below w0.heap.size w0 w → Calls Try.prog 18 #[.pointer (some ⟨G, 0, none⟩), .slice A0 l0.length c0] w fun e w' => e = .returned (.tuple #[.agg #[.slice B0 ((eFindO l0).getD z27).f0.length b0, .string ((eFindO l0).getD z27).f1, .int .i64 ((eFindO l0).getD z27).f2, .slice B3 ((eFindO l0).getD z27).f3.length b3], .bool (eFind l0)]) ∧ Below w.heap.size w w' := by
  obtain ⟨ad, rfl, hall⟩ := el_all hG
  have hn := attrs_len
  rcases first_of (fun x => decide (x.f0 = l0)) attrsL with ⟨j, hj, h1, h2, h3⟩ | ⟨h1, h2⟩
  · obtain ⟨B0, b0, B3, b3, hE⟩ := hall j hj
    have e1 : eFindO l0 = some attrsL[j] := h1
    have e2 : eFind l0 = true := by unfold eFind; rw [e1]; rfl
    rw [e1, e2, Option.getD_some]
    have h2' : attrsL[j].f0 = l0 := of_decide_eq_true h2
    obtain ⟨X, hX⟩ : ∃ X, attrsL[j] = X := ⟨_, rfl⟩
    rw [hX] at hE h2' ⊢
    subst h2'
    refine ⟨B0, b0, B3, b3, hE.2.1, hE.2.2, fun w hw => ?_⟩
    have HB := Aside0.mk (Below.refl w.heap.size w)
    have hGw := GAt_below hG hw
    have hr := Kd.C_below hr0 hw
    have hEw := el_below hE hw
    obtain ⟨⟨g1, g2, hbk⟩, hcl, hC⟩ := hGw
    have hc1 : w.cell? ⟨G, 2, none⟩ = some (.slice (some ad) attrsL.length c) := (blk_cell hbk 2).trans rfl
    go_enter Try.func18, Try.ntmps18
    go_wp2_with ((with_reducible refine gate_dst (N := 4) rfl ?_); refine box_event ?hg (N := 4) ?hd (cs := #[.slice none 0 0, .string (⟨#[]⟩ : ByteArray), .int .i64 0, .slice none 0 0]) (t := 27) ?hr ?_; (case hd => rfl); (case hg => rfl); (case hr => first | (go_simp; done) | (go_simp; rfl)); intro gb hg w1 hbox hb; have BK := Aside0.mk hbox; have HW := Aside0.mk hb; have hgw : w.heap.size ≤ gb := Nat.le_of_eq hg.symm; clear hbox hb hg)
    go_loopg [6] 20 (fun kq v6 w' => ∃ x : Int, v6 = .int .i64 x ∧ 0 ≤ x ∧ x ≤ j ∧ x + kq = 20 ∧ Aside0 (w'.heap[gb]? = some (.cells #[.slice none 0 0, .string (⟨#[]⟩ : ByteArray), .int .i64 0, .slice none 0 0] 27 (0, 0))) ∧ Aside0 (Below w.heap.size w w'))
    case atStart => exact ⟨0, rfl, by omega, by omega, by omega, BK, HW⟩
    case round =>
      clear BK HW
      obtain ⟨x, rfl, hx0, hxj, hk, BK, HW⟩ := hrel
      obtain ⟨g', rfl⟩ : ∃ g', gk = g' + 1 := ⟨gk - 1, by omega⟩
      have hww := below_step hw HW.out
      have hc1 : wr.cell? ⟨G, 2, none⟩ = some (.slice (some ad) attrsL.length c) := (HW.out.cell (World.block_lt_of_cell? _ _ hc1)).trans hc1
      have hlt : decide (x < (attrsL.length : Int)) = true := decide_eq_true (by omega)
      have p1 : (0 ≤ x) = True := eq_true (by omega)
      have q1 : (x < (attrsL.length : Int)) = True := eq_true (by omega)
      have hw1 : wrap64 (x + 1) = x + 1 := by unfold wrap64; omega
      by_cases hxe : x = j
      · have hEr := el_below hE hww
        have exj : x.toNat = j := by omega
        obtain ⟨⟨f0, f1, f2, f3⟩, ⟨f4, f5⟩, f6, f7⟩ := hEr
        have hrr := Kd.C_below hr0 hww
        have z0 : wr.cell? ⟨gb, 0, none⟩ = some (.slice none 0 0) := (blk_cell BK.out 0).trans rfl
        have z1 : wr.cell? ⟨gb, 1, none⟩ = some (.string (⟨#[]⟩ : ByteArray)) := (blk_cell BK.out 1).trans rfl
        have z2 : wr.cell? ⟨gb, 2, none⟩ = some (.int .i64 0) := (blk_cell BK.out 2).trans rfl
        have z3 : wr.cell? ⟨gb, 3, none⟩ = some (.slice none 0 0) := (blk_cell BK.out 3).trans rfl
        have y0 := blk_frozen BK.out 0
        have y1 := blk_frozen BK.out 1
        have y2 := blk_frozen BK.out 2
        have y3 := blk_frozen BK.out 3
        have hI := Ints_f X.f0 X.f0 2000 (by omega) (by omega)
        rw [decide_eq_true rfl] at hI
        go_wp2_with (go_at_call 10; refine (sobriquetkeep_Ints.calls 2000 _ _ _ _ _ _ _ wr f5 f4 hrr hc0 hI).mono ?_; rintro e w_ ⟨rfl, hd⟩; obtain ⟨nd, rfl⟩ := hd)
        refine bodyPost_ret (results_ct rfl _ _ gb 27 #[.slice B0 X.f0.length b0, .string X.f1, .int .i64 X.f2, .slice B3 X.f3.length b3] (0, 0) _ rfl (by (with_reducible repeat (first | refine blk_drewN ?_ _ | refine blk_drew ?_)); refine blk_put (cs := #[.slice B0 X.f0.length b0, .string X.f1, .int .i64 X.f2, .slice none 0 0]) ?_ 3 _ rfl; refine blk_put (cs := #[.slice B0 X.f0.length b0, .string X.f1, .int .i64 0, .slice none 0 0]) ?_ 2 _ rfl; refine blk_put (cs := #[.slice B0 X.f0.length b0, .string (⟨#[]⟩ : ByteArray), .int .i64 0, .slice none 0 0]) ?_ 1 _ rfl; refine blk_put (cs := #[.slice none 0 0, .string (⟨#[]⟩ : ByteArray), .int .i64 0, .slice none 0 0]) ?_ 0 _ rfl; (with_reducible repeat (first | refine blk_drewN ?_ _ | refine blk_drew ?_)); exact BK.out) Try.underlying27 rfl (by kernel_rfl)) rfl ?_
        exact ⟨rfl, by repeat (first | (with_reducible first | exact HW.out | apply pw_below_drewN | apply below_drew1 | refine below_set ?_ hgw) | exact HW.out)⟩
      · obtain ⟨i, rfl⟩ : ∃ i : Nat, x = (i : Int) := ⟨x.toNat, by omega⟩
        have hij : i < j := by omega
        obtain ⟨D0, d0, D3, d3, hD⟩ := hall i (by omega)
        have hne := h3 i hij
        have hsh := attrs_short attrsL[i] (List.getElem_mem _)
        obtain ⟨Y, hY⟩ : ∃ Y, attrsL[i] = Y := ⟨_, rfl⟩
        rw [hY] at hD hsh
        simp only [hY] at hne
        have hDr := el_below hD hww
        obtain ⟨⟨f0, f1, f2, f3⟩, ⟨f4, f5⟩, f6, f7⟩ := hDr
        have hrr := Kd.C_below hr0 hww
        have hI := Ints_f Y.f0 X.f0 2000 (by omega) (by omega)
        rw [hne] at hI
        clear hne h3 hY hD hEw hE h2 hxe
        go_wp2_with (go_at_call 10; refine (sobriquetkeep_Ints.calls 2000 _ _ _ _ _ _ _ wr f5 f4 hrr hc0 hI).mono ?_; rintro e w_ ⟨rfl, hd⟩; obtain ⟨nd, rfl⟩ := hd)
        go_roundg g'
        case measure => omega
        case rel => exact ⟨(i : Int) + 1, by first | rfl | rw [hw1], by omega, by omega, by omega, ⟨blk_drewN BK.out _⟩, ⟨pw_below_drewN HW.out _⟩⟩
  · have e1 : eFindO l0 = none := h1
    have e2 : eFind l0 = false := by unfold eFind; rw [e1]; rfl
    rw [e1, e2, Option.getD_none]
    refine ⟨none, 0, none, 0, ⟨Nat.le_refl _, Kd.C_nil _ _⟩, ⟨Nat.le_refl _, Kd.C_nil _ _⟩, fun w hw => ?_⟩
    have HB := Aside0.mk (Below.refl w.heap.size w)
    have hGw := GAt_below hG hw
    have hr := Kd.C_below hr0 hw
    obtain ⟨⟨g1, g2, hbk⟩, hcl, hC⟩ := hGw
    have hc1 : w.cell? ⟨G, 2, none⟩ = some (.slice (some ad) attrsL.length c) := (blk_cell hbk 2).trans rfl
    go_enter Try.func18, Try.ntmps18
    go_wp2_with ((with_reducible refine gate_dst (N := 4) rfl ?_); refine box_event ?hg (N := 4) ?hd (cs := #[.slice none 0 0, .string (⟨#[]⟩ : ByteArray), .int .i64 0, .slice none 0 0]) (t := 27) ?hr ?_; (case hd => rfl); (case hg => rfl); (case hr => first | (go_simp; done) | (go_simp; rfl)); intro gb hg w1 hbox hb; have BK := Aside0.mk hbox; have HW := Aside0.mk hb; have hgw : w.heap.size ≤ gb := Nat.le_of_eq hg.symm; clear hbox hb hg)
    go_loopg [6] 20 (fun kq v6 w' => ∃ x : Int, v6 = .int .i64 x ∧ 0 ≤ x ∧ x ≤ 13 ∧ x + kq = 20 ∧ Aside0 (w'.heap[gb]? = some (.cells #[.slice none 0 0, .string (⟨#[]⟩ : ByteArray), .int .i64 0, .slice none 0 0] 27 (0, 0))) ∧ Aside0 (Below w.heap.size w w'))
    case atStart => exact ⟨0, rfl, by omega, by omega, by omega, BK, HW⟩
    case round =>
      clear BK HW
      obtain ⟨x, rfl, hx0, hxj, hk, BK, HW⟩ := hrel
      obtain ⟨g', rfl⟩ : ∃ g', gk = g' + 1 := ⟨gk - 1, by omega⟩
      have hww := below_step hw HW.out
      have hc1 : wr.cell? ⟨G, 2, none⟩ = some (.slice (some ad) attrsL.length c) := (HW.out.cell (World.block_lt_of_cell? _ _ hc1)).trans hc1
      have p1 : (0 ≤ x) = True := eq_true (by omega)
      have hw1 : wrap64 (x + 1) = x + 1 := by unfold wrap64; omega
      by_cases hxe : x = 13
      · have hlt : decide (x < (attrsL.length : Int)) = false := decide_eq_false (by omega)
        have z0 : wr.cell? ⟨gb, 0, none⟩ = some (.slice none 0 0) := (blk_cell BK.out 0).trans rfl
        have z1 : wr.cell? ⟨gb, 1, none⟩ = some (.string (⟨#[]⟩ : ByteArray)) := (blk_cell BK.out 1).trans rfl
        have z2 : wr.cell? ⟨gb, 2, none⟩ = some (.int .i64 0) := (blk_cell BK.out 2).trans rfl
        have z3 : wr.cell? ⟨gb, 3, none⟩ = some (.slice none 0 0) := (blk_cell BK.out 3).trans rfl
        have y0 := blk_frozen BK.out 0
        have y1 := blk_frozen BK.out 1
        have y2 := blk_frozen BK.out 2
        have y3 := blk_frozen BK.out 3
        go_wp2
        refine bodyPost_ret (results_ct rfl _ _ gb 27 #[.slice none 0 0, .string (⟨#[]⟩ : ByteArray), .int .i64 0, .slice none 0 0] (0, 0) _ rfl (by refine blk_put (cs := #[.slice none 0 0, .string (⟨#[]⟩ : ByteArray), .int .i64 0, .slice none 0 0]) ?_ 3 _ rfl; refine blk_put (cs := #[.slice none 0 0, .string (⟨#[]⟩ : ByteArray), .int .i64 0, .slice none 0 0]) ?_ 2 _ rfl; refine blk_put (cs := #[.slice none 0 0, .string (⟨#[]⟩ : ByteArray), .int .i64 0, .slice none 0 0]) ?_ 1 _ rfl; refine blk_put (cs := #[.slice none 0 0, .string (⟨#[]⟩ : ByteArray), .int .i64 0, .slice none 0 0]) ?_ 0 _ rfl; exact BK.out) Try.underlying27 rfl (by kernel_rfl)) rfl ?_
        exact ⟨rfl, by repeat (first | (with_reducible first | exact HW.out | apply pw_below_drewN | apply below_drew1 | refine below_set ?_ hgw) | exact HW.out)⟩
      · have hlt : decide (x < (attrsL.length : Int)) = true := decide_eq_true (by omega)
        have q1 : (x < (attrsL.length : Int)) = True := eq_true (by omega)
        obtain ⟨i, rfl⟩ : ∃ i : Nat, x = (i : Int) := ⟨x.toNat, by omega⟩
        have hij : i < attrsL.length := by omega
        obtain ⟨D0, d0, D3, d3, hD⟩ := hall i hij
        have hne := h2 i hij
        have hsh := attrs_short attrsL[i] (List.getElem_mem _)
        obtain ⟨Y, hY⟩ : ∃ Y, attrsL[i] = Y := ⟨_, rfl⟩
        rw [hY] at hD hsh
        simp only [hY] at hne
        have hDr := el_below hD hww
        obtain ⟨⟨f0, f1, f2, f3⟩, ⟨f4, f5⟩, f6, f7⟩ := hDr
        have hrr := Kd.C_below hr0 hww
        have hI := Ints_f Y.f0 l0 2000 (by omega) (by omega)
        rw [hne] at hI
        clear hne h2 hY hD
        go_wp2_with (go_at_call 10; refine (sobriquetkeep_Ints.calls 2000 _ _ _ _ _ _ _ wr f5 f4 hrr hc0 hI).mono ?_; rintro e w_ ⟨rfl, hd⟩; obtain ⟨nd, rfl⟩ := hd)
        go_roundg g'
        case measure => omega
        case rel => exact ⟨(i : Int) + 1, by first | rfl | rw [hw1], by omega, by omega, by omega, ⟨blk_drewN BK.out _⟩, ⟨pw_below_drewN HW.out _⟩⟩
end Go.Proofs.Yteclbjjdhckgoaa.Tb
