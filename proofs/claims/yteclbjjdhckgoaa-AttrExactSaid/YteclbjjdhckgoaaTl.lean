/- The engine's methods: what is found of a name. -/
import Derived.Test.YteclbjjdhckgoaaTi
namespace Go.Proofs.Yteclbjjdhckgoaa.LAttrExact
open Go.RowKit Go.Proofs Go.Proofs.YteclbjjdhckgoaaW.PrintWords Go.Proofs.YteclbjjdhckgoaaW.PrintLast Go.Proofs.YteclbjjdhckgoaaW.PrintMore
set_option linter.unusedVariables false
set_option linter.unusedSimpArgs false
set_option linter.unnecessarySimpa false
def sobriquetref21_large.f (a0 : Int) : Option (Int) := if a0 ≥ 97 then (if a0 ≤ 122 then (some ((a0 - 32) % 256)) else (some a0)) else (some a0)
set_option maxHeartbeats 8000000 in
set_option maxRecDepth 100000 in
theorem sobriquetref21_large.calls (a0 : Int) (r : Int) (w : World) (h : sobriquetref21_large.f a0 = some r) :
    Calls Try.prog 29 #[.int .u8 a0] w fun e w' => e = .returned (.int .u8 r) ∧ Drawn0 w w' := by
  have H : (if a0 ≥ 97 then (if a0 ≤ 122 then (some ((a0 - 32) % 256)) else (some a0)) else (some a0)) = some r := h
  clear h
  by_cases c2 : a0 ≥ 97
  · rw [if_pos c2] at H
    have c2b0 : decide (97 ≤ a0) = true := decide_eq_true c2
    clear c2
    by_cases c3 : a0 ≤ 122
    · rw [if_pos c3] at H
      have c3b0 : decide (a0 ≤ 122) = true := decide_eq_true c3
      clear c3
      obtain rfl := Option.some.inj H
      go_enter Try.func29, Try.ntmps29
      go_wp2
      go_ret
      exact ⟨by first | rfl | (simp; done) | (simp [*]; done), by repeat (first | exact Drawn0.refl _ | apply Drawn0.step)⟩
    · rw [if_neg c3] at H
      have c3b0 : decide (a0 ≤ 122) = false := decide_eq_false c3
      clear c3
      obtain rfl := Option.some.inj H
      go_enter Try.func29, Try.ntmps29
      go_wp2
      go_ret
      exact ⟨by first | rfl | (simp; done) | (simp [*]; done), by repeat (first | exact Drawn0.refl _ | apply Drawn0.step)⟩
  · rw [if_neg c2] at H
    have c2b0 : decide (97 ≤ a0) = false := decide_eq_false c2
    clear c2
    obtain rfl := Option.some.inj H
    go_enter Try.func29, Try.ntmps29
    go_wp2
    go_ret
    exact ⟨by first | rfl | (simp; done) | (simp [*]; done), by repeat (first | exact Drawn0.refl _ | apply Drawn0.step)⟩

end Go.Proofs.Yteclbjjdhckgoaa.LAttrExact
namespace Go.Proofs.Yteclbjjdhckgoaa.Tb
open Go.Proofs.YteclbjjdhckgoaaW.PrintWords Go.Proofs.YteclbjjdhckgoaaW.PrintLast Go.Proofs.YteclbjjdhckgoaaW.PrintMore
open Go.RowKit Go.Proofs Go.Proofs.Yteclbjjdhckgoaa.LAttrExact
set_option linter.unusedVariables false
set_option linter.unusedSimpArgs false
def lgI (c : Int) : Int := if 97 ≤ c ∧ c ≤ 122 then c - 32 else c
theorem large_f (c : Int) : sobriquetref21_large.f c = some (lgI c) := by
  unfold sobriquetref21_large.f lgI
  by_cases h1 : c ≥ 97
  · rw [if_pos h1]
    by_cases h2 : c ≤ 122
    · rw [if_pos h2, if_pos ⟨h1, h2⟩]; congr 1; omega
    · rw [if_neg h2, if_neg (fun h => h2 h.2)]
  · rw [if_neg h1, if_neg (fun h => h1 h.1)]
theorem sizeL (s : ByteArray) : s.data.toList.length = s.size := Array.length_toList
theorem bt_nat (s : ByteArray) (i : Nat) (h : i < s.data.toList.length) : bt s (i : Int) = ((s.data.toList[i]).toNat : Int) := by
  have h2 : ((i : Int)).toNat < s.size := by rw [Int.toNat_natCast, ← sizeL]; exact h
  rw [← bt_at s (i : Int) h2]
  rfl
theorem lgI_u8 (c : UInt8) : lgI (c.toNat : Int) = largeE c := by
  unfold lgI largeE
  by_cases h : 97 ≤ c.toNat ∧ c.toNat ≤ 122
  · rw [if_pos h, if_pos (by omega)]
  · rw [if_neg h, if_neg (by omega)]
theorem alike_iff (a s : ByteArray) : alikeE a s = true ↔ a.size = s.size ∧ ∀ y : Nat, y < a.size → lgI (bt a y) = lgI (bt s y) := by
  unfold alikeE
  rw [decide_eq_true_iff]
  constructor
  · intro h
    have hl : a.data.toList.length = s.data.toList.length := by simpa using congrArg List.length h
    refine ⟨by rw [← sizeL, ← sizeL]; exact hl, fun y hy => ?_⟩
    have hy1 : y < a.data.toList.length := by rw [sizeL]; exact hy
    have hy2 : y < s.data.toList.length := by omega
    rw [bt_nat a y hy1, bt_nat s y hy2, lgI_u8, lgI_u8]
    have := congrArg (fun l : List Int => l[y]?) h
    simpa [List.getElem?_eq_getElem hy1, List.getElem?_eq_getElem hy2, -Array.getElem_toList, -Array.getElem?_toList] using this
  · rintro ⟨hl, h⟩
    have hl2 : a.data.toList.length = s.data.toList.length := by rw [sizeL, sizeL]; exact hl
    apply List.ext_getElem (by simpa using hl2)
    intro y h1 h2
    have hy1 : y < a.data.toList.length := by simpa using h1
    have hy2 : y < s.data.toList.length := by omega
    have := h y (by rw [← sizeL]; exact hy1)
    rw [bt_nat a y hy1, bt_nat s y hy2, lgI_u8, lgI_u8] at this
    simpa [-Array.getElem_toList] using this
theorem names_short : ∀ x ∈ attrsL, x.f1.size ≤ 100 := by decide
/-- What the inner loop keeps. -/
def NI (a s : ByteArray) (b : Bool) (y : Nat) : Prop :=
  (b = true → y ≤ a.size ∧ a.size = s.size ∧ ∀ z : Nat, z < y → lgI (bt a z) = lgI (bt s z)) ∧ (b = false → alikeE a s = false)
theorem NI_start (a s : ByteArray) : NI a s ((a.size : Int) == (s.size : Int)) 0 := by
  refine ⟨fun h => ⟨Nat.zero_le _, by (have h2 : (a.size : Int) = s.size := by simpa using h); omega, fun z hz => absurd hz (Nat.not_lt_zero _)⟩, fun h => ?_⟩
  cases he : alikeE a s with
  | false => rfl
  | true => have := ((alike_iff a s).mp he).1; rw [this] at h; simp at h
theorem NI_step {a s : ByteArray} {y : Nat} (h : NI a s true y) (hy : y < a.size) : NI a s (lgI (bt a y) == lgI (bt s y)) (y + 1) := by
  obtain ⟨h1, h2, h3⟩ := h.1 rfl
  refine ⟨fun e => ⟨hy, h2, fun z hz => ?_⟩, fun e => ?_⟩
  · rcases Nat.lt_or_eq_of_le (Nat.le_of_lt_succ hz) with h | rfl
    · exact h3 z h
    · simpa using e
  · cases he : alikeE a s with
    | false => rfl
    | true => have := ((alike_iff a s).mp he).2 y hy; rw [this] at e; simp at e
theorem NI_end {a s : ByteArray} {y : Nat} (h : NI a s true y) (hy : ¬ y < a.size) : alikeE a s = true := by
  obtain ⟨h1, h2, h3⟩ := h.1 rfl
  exact (alike_iff a s).mpr ⟨h2, fun z hz => h3 z (by omega)⟩
set_option maxRecDepth 100000 in
set_option maxHeartbeats 8000000 in
theorem ByName_walk (w0 : World) (G : Nat) (ad : Addr) (c : Nat) (hG : GAt w0 G (some ad) c) (a1 : ByteArray) (hl : a1.size ≤ 1000) (F : Nat → Option Addr × Nat × Option Addr × Nat)
    (hF : ∀ i, (hi : i < attrsL.length) → ElAt w0 ad i attrsL[i] (F i).1 (F i).2.1 (F i).2.2.1 (F i).2.2.2) (w : World) (hw : Below w0.heap.size w0 w) :
    Calls Try.prog 19 #[.pointer (some ⟨G, 0, none⟩), .string a1] w fun e w' => ((∃ j, ∃ hj : j < attrsL.length, alikeE attrsL[j].f1 a1 = true ∧ (∀ i (hi : i < j), alikeE (attrsL[i]'(by omega)).f1 a1 = false) ∧ e = .returned (.tuple #[.agg #[.slice (F j).1 attrsL[j].f0.length (F j).2.1, .string attrsL[j].f1, .int .i64 attrsL[j].f2, .slice (F j).2.2.1 attrsL[j].f3.length (F j).2.2.2], .bool true])) ∨
      ((∀ i (hi : i < attrsL.length), alikeE attrsL[i].f1 a1 = false) ∧ e = .returned (.tuple #[.agg #[.slice none 0 0, .string (⟨#[]⟩ : ByteArray), .int .i64 0, .slice none 0 0], .bool false]))) ∧ Below w.heap.size w w' := by
  have hn := attrs_len
  have HB := Aside0.mk (Below.refl w.heap.size w)
  have hGw := GAt_below hG hw
  obtain ⟨⟨g1, g2, hbk⟩, hcl, hC⟩ := hGw
  have hc1 : w.cell? ⟨G, 2, none⟩ = some (.slice (some ad) attrsL.length c) := (blk_cell hbk 2).trans rfl
  go_enter Try.func19, Try.ntmps19
  go_wp2_with ((with_reducible refine gate_dst (N := 4) rfl ?_); refine box_event ?hg (N := 4) ?hd (cs := #[.slice none 0 0, .string (⟨#[]⟩ : ByteArray), .int .i64 0, .slice none 0 0]) (t := 27) ?hr ?_; (case hd => rfl); (case hg => rfl); (case hr => first | (go_simp; done) | (go_simp; rfl)); intro gb hg w1 hbox hb; have BK := Aside0.mk hbox; have HW := Aside0.mk hb; have hgw : w.heap.size ≤ gb := Nat.le_of_eq hg.symm; clear hbox hb hg)
  go_loopg [6] 20 (fun kq v6 w' => ∃ x : Nat, v6 = .int .i64 (x : Int) ∧ x ≤ 13 ∧ x + kq = 20 ∧ (∀ i (hi : i < attrsL.length), i < x → alikeE attrsL[i].f1 a1 = false) ∧ Aside0 (w'.heap[gb]? = some (.cells #[.slice none 0 0, .string (⟨#[]⟩ : ByteArray), .int .i64 0, .slice none 0 0] 27 (0, 0))) ∧ Aside0 (Below w.heap.size w w'))
  case atStart => exact ⟨0, rfl, by omega, by omega, fun i hi h => absurd h (Nat.not_lt_zero _), BK, HW⟩
  case round =>
    clear BK HW
    obtain ⟨x, rfl, hx0, hk, hno, BK, HW⟩ := hrel
    obtain ⟨g', rfl⟩ : ∃ g', gk = g' + 1 := ⟨gk - 1, by omega⟩
    have hww := below_step hw HW.out
    have hc1 : wr.cell? ⟨G, 2, none⟩ = some (.slice (some ad) attrsL.length c) := (HW.out.cell (World.block_lt_of_cell? _ _ hc1)).trans hc1
    have p1 : (0 ≤ (x : Int)) = True := eq_true (by omega)
    have hw1 : wrap64 ((x : Int) + 1) = ((x + 1 : Nat) : Int) := by unfold wrap64; omega
    by_cases hxe : x = 13
    · have hlt : decide ((x : Int) < (attrsL.length : Int)) = false := decide_eq_false (by omega)
      have z0 : wr.cell? ⟨gb, 0, none⟩ = some (.slice none 0 0) := (blk_cell BK.out 0).trans rfl
      have z1 : wr.cell? ⟨gb, 1, none⟩ = some (.string (⟨#[]⟩ : ByteArray)) := (blk_cell BK.out 1).trans rfl
      have z2 : wr.cell? ⟨gb, 2, none⟩ = some (.int .i64 0) := (blk_cell BK.out 2).trans rfl
      have z3 : wr.cell? ⟨gb, 3, none⟩ = some (.slice none 0 0) := (blk_cell BK.out 3).trans rfl
      have y0 := blk_frozen BK.out 0
      have y1 := blk_frozen BK.out 1
      have y2 := blk_frozen BK.out 2
      have y3 := blk_frozen BK.out 3
      go_wp2
      refine bodyPost_ret (results_ct rfl _ _ gb 27 #[.slice none 0 0, .string (⟨#[]⟩ : ByteArray), .int .i64 0, .slice none 0 0] (0, 0) _ rfl (by refine blk_put (cs := #[.slice none 0 0, .string (⟨#[]⟩ : ByteArray), .int .i64 0, .slice none 0 0]) ?_ 3 _ rfl; refine blk_put (cs := #[.slice none 0 0, .string (⟨#[]⟩ : ByteArray), .int .i64 0, .slice none 0 0]) ?_ 2 _ rfl; refine blk_put (cs := #[.slice none 0 0, .string (⟨#[]⟩ : ByteArray), .int .i64 0, .slice none 0 0]) ?_ 1 _ rfl; refine blk_put (cs := #[.slice none 0 0, .string (⟨#[]⟩ : ByteArray), .int .i64 0, .slice none 0 0]) ?_ 0 _ rfl; exact BK.out) Try.underlying27 rfl (by kernel_rfl)) rfl ?_
      exact ⟨.inr ⟨fun i hi => hno i hi (by omega), rfl⟩, by repeat (first | (with_reducible first | exact HW.out | apply pw_below_drewN | apply below_drew1 | refine below_set ?_ hgw) | exact HW.out)⟩
    · have hlt : decide ((x : Int) < (attrsL.length : Int)) = true := decide_eq_true (by omega)
      have q1 : ((x : Int) < (attrsL.length : Int)) = True := eq_true (by omega)
      have hij : x < attrsL.length := by omega
      have hD := hF x hij
      have hsh := names_short attrsL[x] (List.getElem_mem _)
      obtain ⟨Y, hY⟩ : ∃ Y, attrsL[x] = Y := ⟨_, rfl⟩
      obtain ⟨B0, hB0⟩ : ∃ B, (F x).1 = B := ⟨_, rfl⟩
      obtain ⟨b0, hb0⟩ : ∃ B, (F x).2.1 = B := ⟨_, rfl⟩
      obtain ⟨B3, hB3⟩ : ∃ B, (F x).2.2.1 = B := ⟨_, rfl⟩
      obtain ⟨b3, hb3⟩ : ∃ B, (F x).2.2.2 = B := ⟨_, rfl⟩
      rw [hY] at hD hsh
      rw [hB0, hb0, hB3, hb3] at hD
      obtain ⟨⟨f0, f1, f2, f3⟩, ⟨f4, f5⟩, f6, f7⟩ := el_below hD hww
      go_wp2
      go_loopg [8, 9] 1200 (fun kq v8 v9 w' => ∃ (b : Bool) (y : Nat), v8 = .bool b ∧ v9 = .int .i64 (y : Int) ∧ y + kq = 1200 ∧ y ≤ 1000 ∧ NI Y.f1 a1 b y ∧ Aside0 (w'.heap[gb]? = some (.cells #[.slice none 0 0, .string (⟨#[]⟩ : ByteArray), .int .i64 0, .slice none 0 0] 27 (0, 0))) ∧ Aside0 (Below w.heap.size w w'))
      case atStart => exact ⟨((Y.f1.size : Int) == (a1.size : Int)), 0, (by first | rfl | (simp; done) | (simp [*]; done)), (by first | rfl | (simp; done) | (simp [*]; done)), by omega, by omega, NI_start _ _, BK, HW⟩
      case round =>
        clear BK HW hww hc1 f0 f1 f2 f3 f4 f5 f6 f7
        obtain ⟨b, y, rfl, rfl, hk2, hy0, hNI, BK, HW⟩ := hrel
        obtain ⟨g2, rfl⟩ : ∃ g', gk = g' + 1 := ⟨gk - 1, by omega⟩
        cases b with
        | false =>
          have hno2 := hNI.2 rfl
          go_wp2
          go_roundg g'
          case measure => omega
          case rel => exact ⟨x + 1, by first | rfl | rw [hw1], by omega, by omega, fun i hi h => by
            rcases Nat.lt_or_eq_of_le (Nat.le_of_lt_succ h) with h | rfl
            · exact hno i hi h
            · rw [hY]; exact hno2, ⟨by (with_reducible repeat (first | refine blk_drewN ?_ _ | refine blk_drew ?_)); exact BK.out⟩, ⟨by repeat (first | (with_reducible first | exact HW.out | apply pw_below_drewN | apply below_drew1) | exact HW.out)⟩⟩
        | true =>
          obtain ⟨m1, m2, m3⟩ := hNI.1 rfl
          have hw2 : wrap64 ((y : Int) + 1) = ((y + 1 : Nat) : Int) := by unfold wrap64; omega
          by_cases hy : y < Y.f1.size
          · have hlt2 : decide ((y : Int) < (Y.f1.size : Int)) = true := decide_eq_true (Int.ofNat_lt.mpr hy)
            have p10 : (0 ≤ (y : Int)) = True := eq_true (Int.natCast_nonneg y)
            have q10 : ((y : Int) < (Y.f1.size : Int)) = True := eq_true (Int.ofNat_lt.mpr hy)
            have q13 : ((y : Int) < (a1.size : Int)) = True := eq_true (Int.ofNat_lt.mpr (m2 ▸ hy))
            have hx10 := bt_at Y.f1 (y : Int)
            have hx13 := bt_at a1 (y : Int)
            have A11 := Aside0.mk (large_f (bt Y.f1 (y : Int)))
            have A14 := Aside0.mk (large_f (bt a1 (y : Int)))
            have hN2 := NI_step hNI hy
            have hk3 : y + 1 + g2 = 1200 := by rw [Nat.add_assoc, Nat.add_comm 1 g2]; exact hk2
            have hy1 : y + 1 ≤ 1000 := Nat.le_trans hy (Nat.le_trans hsh (by decide))
            generalize hyi : (y : Int) = yi at hlt2 p10 q10 q13 hx10 hx13 A11 A14 hw2 hN2 ⊢
            go_wp2_with (first | (go_at_call 29; (with_reducible refine (sobriquetref21_large.calls (bt Y.f1 yi) _ _ A11.out).mono ?_); rintro e w' ⟨rfl, ⟨nd, rfl⟩⟩; (try first | exact ⟨rfl, _, World.drewN_drewN _ _ _⟩ | exact ⟨rfl, _, Eq.trans (World.drewN_drewN _ _ _) (congrArg (World.drewN _) (Nat.add_assoc _ _ _))⟩)) | (go_at_call 29; (with_reducible refine (sobriquetref21_large.calls (bt a1 yi) _ _ A14.out).mono ?_); rintro e w' ⟨rfl, ⟨nd, rfl⟩⟩; (try first | exact ⟨rfl, _, World.drewN_drewN _ _ _⟩ | exact ⟨rfl, _, Eq.trans (World.drewN_drewN _ _ _) (congrArg (World.drewN _) (Nat.add_assoc _ _ _))⟩)))
            repeat (go_quiet (first | (go_at_call 29; (with_reducible refine (sobriquetref21_large.calls (bt Y.f1 yi) _ _ A11.out).mono ?_); rintro e w' ⟨rfl, ⟨nd, rfl⟩⟩; (try first | exact ⟨rfl, _, World.drewN_drewN _ _ _⟩ | exact ⟨rfl, _, Eq.trans (World.drewN_drewN _ _ _) (congrArg (World.drewN _) (Nat.add_assoc _ _ _))⟩)) | (go_at_call 29; (with_reducible refine (sobriquetref21_large.calls (bt a1 yi) _ _ A14.out).mono ?_); rintro e w' ⟨rfl, ⟨nd, rfl⟩⟩; (try first | exact ⟨rfl, _, World.drewN_drewN _ _ _⟩ | exact ⟨rfl, _, Eq.trans (World.drewN_drewN _ _ _) (congrArg (World.drewN _) (Nat.add_assoc _ _ _))⟩))); try go_wp2_with (first | (go_at_call 29; (with_reducible refine (sobriquetref21_large.calls (bt Y.f1 yi) _ _ A11.out).mono ?_); rintro e w' ⟨rfl, ⟨nd, rfl⟩⟩; (try first | exact ⟨rfl, _, World.drewN_drewN _ _ _⟩ | exact ⟨rfl, _, Eq.trans (World.drewN_drewN _ _ _) (congrArg (World.drewN _) (Nat.add_assoc _ _ _))⟩)) | (go_at_call 29; (with_reducible refine (sobriquetref21_large.calls (bt a1 yi) _ _ A14.out).mono ?_); rintro e w' ⟨rfl, ⟨nd, rfl⟩⟩; (try first | exact ⟨rfl, _, World.drewN_drewN _ _ _⟩ | exact ⟨rfl, _, Eq.trans (World.drewN_drewN _ _ _) (congrArg (World.drewN _) (Nat.add_assoc _ _ _))⟩))))
            go_roundg g2
            case measure => exact Nat.lt_succ_self _
            case rel => exact ⟨(lgI (bt Y.f1 yi) == lgI (bt a1 yi)), y + 1, (by first | rfl | (simp; done) | (simp [*]; done)), (by first | rfl | rw [hw2] | (simp; done) | (simp [*]; done)), hk3, hy1, hN2, ⟨by (with_reducible repeat (first | refine blk_drewN ?_ _ | refine blk_drew ?_)); exact BK.out⟩, ⟨by repeat (first | (with_reducible first | exact HW.out | apply pw_below_drewN | apply below_drew1) | exact HW.out)⟩⟩
          · have hlt2 : decide ((y : Int) < (Y.f1.size : Int)) = false := decide_eq_false (fun h => hy (Int.ofNat_lt.mp h))
            have hal := NI_end hNI hy
            have HAL := Aside0.mk hal
            have HNO := Aside0.mk hno
            clear hal hno hNI m1 m2 m3 hy hw2 hk hk2 hy0 hx0
            have hww := below_step hw HW.out
            have hc1 : wr.cell? ⟨G, 2, none⟩ = some (.slice (some ad) attrsL.length c) := (HW.out.cell (World.block_lt_of_cell? _ _ hc1)).trans hc1
            obtain ⟨⟨f0, f1, f2, f3⟩, ⟨f4, f5⟩, f6, f7⟩ := el_below hD hww
            have z0 : wr.cell? ⟨gb, 0, none⟩ = some (.slice none 0 0) := (blk_cell BK.out 0).trans rfl
            have z1 : wr.cell? ⟨gb, 1, none⟩ = some (.string (⟨#[]⟩ : ByteArray)) := (blk_cell BK.out 1).trans rfl
            have z2 : wr.cell? ⟨gb, 2, none⟩ = some (.int .i64 0) := (blk_cell BK.out 2).trans rfl
            have z3 : wr.cell? ⟨gb, 3, none⟩ = some (.slice none 0 0) := (blk_cell BK.out 3).trans rfl
            have y0 := blk_frozen BK.out 0
            have y1 := blk_frozen BK.out 1
            have y2 := blk_frozen BK.out 2
            have y3 := blk_frozen BK.out 3
            generalize hyi : (y : Int) = yi at hlt2 ⊢
            go_wp2
            refine bodyPost_ret (results_ct rfl _ _ gb 27 #[.slice B0 Y.f0.length b0, .string Y.f1, .int .i64 Y.f2, .slice B3 Y.f3.length b3] (0, 0) _ rfl (by refine blk_put (cs := #[.slice B0 Y.f0.length b0, .string Y.f1, .int .i64 Y.f2, .slice none 0 0]) ?_ 3 _ rfl; refine blk_put (cs := #[.slice B0 Y.f0.length b0, .string Y.f1, .int .i64 0, .slice none 0 0]) ?_ 2 _ rfl; refine blk_put (cs := #[.slice B0 Y.f0.length b0, .string (⟨#[]⟩ : ByteArray), .int .i64 0, .slice none 0 0]) ?_ 1 _ rfl; refine blk_put (cs := #[.slice none 0 0, .string (⟨#[]⟩ : ByteArray), .int .i64 0, .slice none 0 0]) ?_ 0 _ rfl; exact BK.out) Try.underlying27 rfl (by kernel_rfl)) rfl ?_
            exact ⟨.inl ⟨x, hij, by rw [hY]; exact HAL.out, fun i hi => HNO.out i (Nat.lt_trans hi hij) hi, by rw [hY, hB0, hb0, hB3, hb3]; rfl⟩, by repeat (first | (with_reducible first | exact HW.out | apply pw_below_drewN | apply below_drew1 | refine below_set ?_ hgw) | exact HW.out)⟩
theorem ByName_calls (w0 : World) (G : Nat) (A : Option Addr) (c : Nat) (hG : GAt w0 G A c) (a1 : ByteArray) (hl : a1.size ≤ 1000) :
    ∃ B0 b0 B3 b3, (((eNameO a1).getD z27).f0.length ≤ b0 ∧ Kd.C (Kd.int .i64) w0 B0 ((eNameO a1).getD z27).f0.length ((eNameO a1).getD z27).f0) ∧ (((eNameO a1).getD z27).f3.length ≤ b3 ∧ Kd.C (Kd.int .i64) w0 B3 ((eNameO a1).getD z27).f3.length ((eNameO a1).getD z27).f3) ∧
      ∀ w, Below w0.heap.size w0 w → Calls Try.prog 19 #[.pointer (some ⟨G, 0, none⟩), .string a1] w fun e w' => e = .returned (.tuple #[.agg #[.slice B0 ((eNameO a1).getD z27).f0.length b0, .string ((eNameO a1).getD z27).f1, .int .i64 ((eNameO a1).getD z27).f2, .slice B3 ((eNameO a1).getD z27).f3.length b3], .bool (eName a1)]) ∧ Below w.heap.size w w' := by
  obtain ⟨ad, rfl, hall⟩ := el_all hG
  have hall2 : ∀ i : Nat, ∃ q : Option Addr × Nat × Option Addr × Nat, (hi : i < attrsL.length) → ElAt w0 ad i attrsL[i] q.1 q.2.1 q.2.2.1 q.2.2.2 := by
    intro i
    by_cases hi : i < attrsL.length
    · obtain ⟨B0, b0, B3, b3, h⟩ := hall i hi
      exact ⟨(B0, b0, B3, b3), fun _ => h⟩
    · exact ⟨(none, 0, none, 0), fun h => absurd h hi⟩
  obtain ⟨F, hF⟩ := Classical.axiomOfChoice hall2
  have hwalk := ByName_walk w0 G ad c hG a1 hl F hF
  rcases first_of (fun x => alikeE x.f1 a1) attrsL with ⟨j, hj, h1, h2, h3⟩ | ⟨h1, h2⟩
  · have e1 : eNameO a1 = some attrsL[j] := h1
    have e2 : eName a1 = true := by unfold eName; rw [e1]; rfl
    rw [e1, e2, Option.getD_some]
    refine ⟨(F j).1, (F j).2.1, (F j).2.2.1, (F j).2.2.2, (hF j hj).2.1, (hF j hj).2.2, fun w hw => (hwalk w hw).mono ?_⟩
    rintro e w' ⟨⟨i, hi, q1, q2, rfl⟩ | ⟨q1, _⟩, hb⟩
    · rcases Nat.lt_trichotomy i j with hh | rfl | hh
      · have := h3 i hh; simp only [q1] at this; cases this
      · exact ⟨rfl, hb⟩
      · have := q2 j hh; simp only [this] at h2; cases h2
    · have := q1 j hj; simp only [this] at h2; cases h2
  · have e1 : eNameO a1 = none := h1
    have e2 : eName a1 = false := by unfold eName; rw [e1]; rfl
    rw [e1, e2, Option.getD_none]
    refine ⟨none, 0, none, 0, ⟨Nat.le_refl _, Kd.C_nil _ _⟩, ⟨Nat.le_refl _, Kd.C_nil _ _⟩, fun w hw => (hwalk w hw).mono ?_⟩
    rintro e w' ⟨⟨i, hi, q1, q2, rfl⟩ | ⟨q1, rfl⟩, hb⟩
    · have := h2 i hi; simp only [q1] at this; cases this
    · exact ⟨rfl, hb⟩
end Go.Proofs.Yteclbjjdhckgoaa.Tb
