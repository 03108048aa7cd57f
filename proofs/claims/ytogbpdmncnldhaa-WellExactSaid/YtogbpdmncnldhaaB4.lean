/- Contracts of walk, Check, Depth and Parts of the package well, over next's. -/
import Derived.Test.YtogbpdmncnldhaaB0
import Derived.Test.YtogbpdmncnldhaaB3
namespace Go.Proofs.Ytogbpdmncnldhaa.Base
open Go.RowKit Go.Proofs.YtogbpdmncnldhaaW.PrintWords Go.Proofs.YtogbpdmncnldhaaW.PrintLast Go.Proofs.YtogbpdmncnldhaaW.PrintMore
attribute [local go_sem] max2_int min2_int max_two min_two max_three min_three max_four min_four   -- for this text's walks alone
set_option linter.unusedVariables false
set_option linter.unusedSimpArgs false
set_option linter.unnecessarySimpa false
theorem well_walker_next.mono : ∀ a0 a1 a2 a3 k, LeO (well_walker_next.f k a0 a1 a2 a3) (well_walker_next.f (k + 1) a0 a1 a2 a3) := by
  intro a0 a1 a2 a3 k
  unfold well_walker_next.f
  refine LeO.ite (LeO.refl _) (LeO.ite (LeO.bind (tlv_Read.mono _ _) (fun b => LeO.ite (LeO.ite (LeO.refl _) (LeO.bind (well_right.mono _ _ _ _ _ _) (fun ok => LeO.refl _))) (LeO.refl _))) (LeO.refl _))
def well_walk.l0 : Nat → List Int → Int → List Int → Int → Bool → Option (Int × Int × Int)
  | 0, _, _, _, _, _ => none
  | k + 1, l, p, S, d, first =>
    if first = true ∨ 0 < S.length then
      (well_walker_next.f k l p S d).bind fun b => if b.1 = 0 then well_walk.l0 k l b.2.1 b.2.2.1 b.2.2.2 false else some (b.1, b.2.1, b.2.2.2)
    else if p < (l.length : Int) then some (5, p, d) else some (0, p, d)
def well_walk.f (k : Nat) (l : List Int) : Option (Int × Int × Int) := well_walk.l0 k l 0 [] 0 true
theorem well_walk.mono_l : ∀ k y0 y1 y2 y3 y4, LeO (well_walk.l0 k y0 y1 y2 y3 y4) (well_walk.l0 (k + 1) y0 y1 y2 y3 y4) := by
  intro k
  induction k with
  | zero => intros; exact LeO.none _
  | succ k ih =>
    intro y0 y1 y2 y3 y4
    rw [well_walk.l0, well_walk.l0]
    exact LeO.ite (LeO.bind (well_walker_next.mono _ _ _ _ _) (fun b => LeO.ite (ih _ _ _ _ _) (LeO.refl _))) (LeO.refl _)
theorem well_walk.mono : ∀ a0 k, LeO (well_walk.f k a0) (well_walk.f (k + 1) a0) := fun a0 k => well_walk.mono_l k _ _ _ _ _
def WalkPost (w : World) (l : List Int) (er p d : Int) (e : Ending) (w' : World) : Prop := ∃ (g : Nat) (S : List Int), e = .returned (.tuple #[.pointer (some ⟨g, 0, none⟩), .int .i64 er]) ∧ IsW w w' g l p S d ∧ Below w.heap.size w w'
theorem isW_new (w : World) (A0 : Option Addr) (c0 : Nat) (l : List Int) (hr0 : Kd.C (Kd.int .u8) w A0 l.length l) (hc0 : l.length ≤ c0) : IsW w (w.alloc (.cells #[.slice A0 l.length c0, .int .i64 0, .slice none 0 0, .int .i64 0] 55)) w.heap.size l 0 [] 0 :=
  ⟨A0, c0, none, 0, blk_new _ _, Nat.le_refl _, hr0, hc0, World.ownsRow_nil _ _ _ _⟩
theorem isW_alloc {w0 W : World} {g : Nat} {l : List Int} {p : Int} {S : List Int} {d : Int} (h : IsW w0 W g l p S d) (o : Obj) : IsW w0 (W.alloc o) g l p S d := isW_below h (below_alloc (Below.refl _ _) o)
set_option maxHeartbeats 8000000 in
set_option maxRecDepth 100000 in
theorem well_walk.calls (k : Nat) (A0 : Option Addr) (c0 : Nat) (l : List Int) (er p2 d2 : Int) (w : World) (hr0 : Kd.C (Kd.int .u8) w A0 l.length l) (hc0 : l.length ≤ c0) (h : well_walk.f k l = some (er, p2, d2)) :
    Calls Try.prog 23 #[.slice A0 l.length c0] w (WalkPost w l er p2 d2) := by
  have hu55 := Try.underlying55
  have hu35 := Try.underlying35
  have HL := Aside0.mk h
  have HC := Aside0.mk hr0
  have HC0 := Aside0.mk hc0
  clear h hr0
  go_enter Try.func23, Try.ntmps23
  go_wp2
  go_loopg [5] k (fun kq v5 w' => ∃ (first : Bool) (p : Int) (S : List Int) (d : Int), v5 = .bool first ∧ Aside0 (well_walk.l0 kq l p S d first = some (er, p2, d2)) ∧ Aside0 (IsW w w' w.heap.size l p S d) ∧ Aside0 (Below w.heap.size w w'))
  case atStart => exact ⟨true, 0, [], 0, rfl, ⟨HL.out⟩, ⟨isW_new w A0 c0 l HC.out HC0.out⟩, ⟨below_alloc (Below.refl _ _) _⟩⟩
  case round =>
    obtain ⟨first, p, S, d, rfl, HK, HW, HBx⟩ := hrel
    have hk := HK.out
    clear HK HL
    cases gk with
    | zero => cases hk
    | succ k1 =>
      rw [well_walk.l0] at hk
      obtain ⟨A1, c1, Av, cv, q1, _, _, _, _⟩ := HW.out
      have x1 := blk_cell q1 1
      have x2 := blk_cell q1 2
      simp only [List.getElem?_toArray, List.getElem?_cons_zero, List.getElem?_cons_succ] at x1 x2
      clear q1
      by_cases hc : first = true ∨ 0 < S.length
      · rw [if_pos hc] at hk
        obtain ⟨⟨e1, p1, S1, d1⟩, hn, hk⟩ := Option.bind_eq_some_iff.mp hk
        dsimp only at hk
        have HN := Aside0.mk hn
        have HK := Aside0.mk hk
        clear hn hk
        go_upto_region 3 with (fail)
        go_cut [19] (fun s19 wx => s19 = .bool true ∧ wx = wr)
        case first =>
          cases first with
          | true =>
            clear hc
            go_wp2_with fail
            go_meet
            exact ⟨rfl, rfl⟩
          | false =>
            have hc1 : 0 < S.length := by rcases hc with h | h; cases h; exact h
            have E7 : Aside0 (decide (0 < S.length) = true) := Aside0.mk (decide_eq_true hc1)
            clear hc hc1
            go_wp2_with fail
            go_meet
            exact ⟨by rw [E7.out], rfl⟩
        case rest =>
          rename World => wr2
          obtain ⟨rfl, rfl⟩ := hcut
          clear hc
          go_upto_if 26 with ((go_at_call 31; refine (next_all k1 w.heap.size l p S d w _ HW.out HBx.out e1 p1 S1 d1 HN.out).mono ?_; rintro e we ⟨⟨a1, a2, a3, a4, a5, rfl⟩, hW, hB⟩; have HW1 := Aside0.mk hW; have HB1 := Aside0.mk hB; clear hW hB))
          by_cases he : e1 = 0
          · subst he
            have hk := HK.out
            rw [if_pos rfl] at hk
            have HK2 := Aside0.mk hk
            clear hk
            go_wp2_with fail
            go_roundg k1
            case measure => omega
            case rel => exact ⟨false, p1, S1, d1, rfl, HK2, ⟨isW_alloc HW1.out _⟩, ⟨below_alloc HB1.out _⟩⟩
          · have hk := HK.out
            rw [if_neg he] at hk
            simp only [Option.some.injEq, Prod.mk.injEq] at hk
            obtain ⟨rfl, rfl, rfl⟩ := hk
            have n1 : ((e1 : Int) != 0) = true := bne_iff_ne.mpr he
            have n2 : ((e1 : Int) == 0) = false := beq_eq_false_iff_ne.mpr he
            clear he
            go_wp2_with fail
            go_ret2
            exact ⟨w.heap.size, S1, rfl, isW_alloc HW1.out _, below_alloc HB1.out _⟩
      · rw [if_neg hc] at hk
        cases first with
        | true => exact (hc (.inl rfl)).elim
        | false =>
        have hS : S = [] := by
          cases S with
          | nil => rfl
          | cons x S => exact (hc (.inr (by simp))).elim
        subst hS
        simp only [List.length_nil] at x2
        clear hc
        by_cases hp : p < (l.length : Int)
        · rw [if_pos hp] at hk
          simp only [Option.some.injEq, Prod.mk.injEq] at hk
          obtain ⟨rfl, rfl, rfl⟩ := hk
          go_wp2_with fail
          go_ret2
          exact ⟨w.heap.size, [], rfl, HW.out, HBx.out⟩
        · rw [if_neg hp] at hk
          simp only [Option.some.injEq, Prod.mk.injEq] at hk
          obtain ⟨rfl, rfl, rfl⟩ := hk
          have hp' : ¬ p < (l.length : Int) := hp
          go_wp2_with fail
          go_ret2
          exact ⟨w.heap.size, [], rfl, HW.out, HBx.out⟩
def well_Check.f (k : Nat) (l : List Int) : Option (Int × Int) := (well_walk.f k l).bind fun b => if b.1 = 0 then some (0, 0) else some (b.2.1, b.1)
theorem well_Check.mono : ∀ a0 k, LeO (well_Check.f k a0) (well_Check.f (k + 1) a0) := by
  intro a0 k
  unfold well_Check.f
  exact LeO.bind (well_walk.mono _ _) (fun b => LeO.refl _)
set_option maxHeartbeats 4000000 in
set_option maxRecDepth 100000 in
theorem well_Check.calls (k : Nat) (A0 : Option Addr) (c0 : Nat) (l0 : List Int) (r1 r2 : Int) (w : World) (hr0 : Kd.C (Kd.int .u8) w A0 l0.length l0) (hc0 : l0.length ≤ c0) (h : well_Check.f k l0 = some (r1, r2)) :
    Calls Try.prog 11 #[.slice A0 l0.length c0] w fun e w' => e = .returned (.tuple #[.int .i64 r1, .int .i64 r2]) ∧ Below w.heap.size w w' := by
  unfold well_Check.f at h
  obtain ⟨⟨er, p, d⟩, hw, h⟩ := Option.bind_eq_some_iff.mp h
  dsimp only at h
  have HL := Aside0.mk hw
  have HC := Aside0.mk hr0
  clear hw hr0
  by_cases he : er = 0
  · subst he
    rw [if_pos rfl] at h
    simp only [Option.some.injEq, Prod.mk.injEq] at h
    obtain ⟨rfl, rfl⟩ := h
    go_enter Try.func11, Try.ntmps11
    go_wp2_with ((go_at_call 23; refine (well_walk.calls k A0 c0 l0 0 p d _ HC.out hc0 HL.out).mono ?_; rintro e we ⟨g, S, rfl, hW, hB⟩; have HW := Aside0.mk hW; have HB := Aside0.mk hB; clear hW hB))
    go_ret2
    exact ⟨rfl, HB.out⟩
  · rw [if_neg he] at h
    simp only [Option.some.injEq, Prod.mk.injEq] at h
    obtain ⟨rfl, rfl⟩ := h
    have n1 : ((er : Int) != 0) = true := bne_iff_ne.mpr he
    have n2 : ((er : Int) == 0) = false := beq_eq_false_iff_ne.mpr he
    clear he
    go_enter Try.func11, Try.ntmps11
    go_wp2_with ((go_at_call 23; refine (well_walk.calls k A0 c0 l0 er p d _ HC.out hc0 HL.out).mono ?_; rintro e we ⟨g, S, rfl, hW, hB⟩; have HB := Aside0.mk hB; obtain ⟨A1, c1, Av, cv, q1, _, _, _, _⟩ := hW; have x1 := blk_cell q1 1; (simp only [List.getElem?_toArray, List.getElem?_cons_zero, List.getElem?_cons_succ] at x1); clear hB q1))
    go_ret2
    exact ⟨rfl, HB.out⟩
def well_Depth.f (k : Nat) (l : List Int) : Option (Int × Int) := (well_walk.f k l).bind fun b => if b.1 = 0 then some (b.2.2, 0) else some (0, b.1)
theorem well_Depth.mono : ∀ a0 k, LeO (well_Depth.f k a0) (well_Depth.f (k + 1) a0) := by
  intro a0 k
  unfold well_Depth.f
  exact LeO.bind (well_walk.mono _ _) (fun b => LeO.refl _)
set_option maxHeartbeats 4000000 in
set_option maxRecDepth 100000 in
theorem well_Depth.calls (k : Nat) (A0 : Option Addr) (c0 : Nat) (l0 : List Int) (r1 r2 : Int) (w : World) (hr0 : Kd.C (Kd.int .u8) w A0 l0.length l0) (hc0 : l0.length ≤ c0) (h : well_Depth.f k l0 = some (r1, r2)) :
    Calls Try.prog 13 #[.slice A0 l0.length c0] w fun e w' => e = .returned (.tuple #[.int .i64 r1, .int .i64 r2]) ∧ Below w.heap.size w w' := by
  unfold well_Depth.f at h
  obtain ⟨⟨er, p, d⟩, hw, h⟩ := Option.bind_eq_some_iff.mp h
  dsimp only at h
  have HL := Aside0.mk hw
  have HC := Aside0.mk hr0
  clear hw hr0
  by_cases he : er = 0
  · subst he
    rw [if_pos rfl] at h
    simp only [Option.some.injEq, Prod.mk.injEq] at h
    obtain ⟨rfl, rfl⟩ := h
    go_enter Try.func13, Try.ntmps13
    go_wp2_with ((go_at_call 23; refine (well_walk.calls k A0 c0 l0 0 p d _ HC.out hc0 HL.out).mono ?_; rintro e we ⟨g, S, rfl, hW, hB⟩; have HB := Aside0.mk hB; obtain ⟨A1, c1, Av, cv, q1, _, _, _, _⟩ := hW; have x1 := blk_cell q1 3; (simp only [List.getElem?_toArray, List.getElem?_cons_zero, List.getElem?_cons_succ] at x1); clear hB q1))
    go_ret2
    exact ⟨rfl, HB.out⟩
  · rw [if_neg he] at h
    simp only [Option.some.injEq, Prod.mk.injEq] at h
    obtain ⟨rfl, rfl⟩ := h
    have n1 : ((er : Int) != 0) = true := bne_iff_ne.mpr he
    have n2 : ((er : Int) == 0) = false := beq_eq_false_iff_ne.mpr he
    clear he
    go_enter Try.func13, Try.ntmps13
    go_wp2_with ((go_at_call 23; refine (well_walk.calls k A0 c0 l0 er p d _ HC.out hc0 HL.out).mono ?_; rintro e we ⟨g, S, rfl, hW, hB⟩; have HW := Aside0.mk hW; have HB := Aside0.mk hB; clear hW hB))
    go_ret2
    exact ⟨rfl, HB.out⟩
def well_Parts.l0 : Nat → List Int → List (List Int) → Option (List (List Int) × Int)
  | 0, _, _ => none
  | k + 1, rest, acc =>
    if 0 < rest.length then
      (tlv_Read.f k rest).bind fun b =>
        if 0 ≤ b.2.2.2.2.1 ∧ b.2.2.2.2.1 ≤ 4294967296 ∧ 0 ≤ b.2.2.2.1 ∧ b.2.2.2.1 ≤ 4294967296 ∧ b.2.2.2.2.1 + b.2.2.2.1 ≤ (rest.length : Int) ∧ acc.length < 1000000000 then
          (bytes_Clone.f (rest.take (b.2.2.2.2.1 + b.2.2.2.1).toNat)).bind fun c => well_Parts.l0 k (rest.drop (b.2.2.2.2.1 + b.2.2.2.1).toNat) (acc ++ [c])
        else none
    else some (acc, 0)
def well_Parts.f (k : Nat) (l : List Int) : Option (List (List Int) × Int) :=
  (well_walk.f k l).bind fun b =>
    if b.1 = 0 then (tlv_One.f k l).bind fun o => if o.2.2.1 = true then well_Parts.l0 k o.2.2.2.2.2.1 [] else some ([], 7)
    else some ([], b.1)
theorem well_Parts.mono_l : ∀ k y0 y1, LeO (well_Parts.l0 k y0 y1) (well_Parts.l0 (k + 1) y0 y1) := by
  intro k
  induction k with
  | zero => intros; exact LeO.none _
  | succ k ih =>
    intro y0 y1
    rw [well_Parts.l0, well_Parts.l0]
    exact LeO.ite (LeO.bind (tlv_Read.mono _ _) (fun b => LeO.ite (LeO.bind (LeO.refl _) (fun c => ih _ _)) (LeO.refl _))) (LeO.refl _)
theorem well_Parts.mono : ∀ a0 k, LeO (well_Parts.f k a0) (well_Parts.f (k + 1) a0) := by
  intro a0 k
  unfold well_Parts.f
  exact LeO.bind (well_walk.mono _ _) (fun b => LeO.ite (LeO.bind (tlv_One.mono _ _) (fun o => LeO.ite (well_Parts.mono_l _ _ _) (LeO.refl _))) (LeO.refl _))
def PartsPost (w : World) (r1 : List (List Int)) (r2 : Int) (e : Ending) (w' : World) : Prop := ∃ v0_ : Value, e = .returned (.tuple #[v0_, .int .i64 r2]) ∧ Kd.S (Kd.slice 5 (Kd.int .u8)) 22 w' w.heap.size (fun _ => True) v0_ r1 ∧ Below w.heap.size w w'
set_option maxHeartbeats 4000000 in
set_option maxRecDepth 100000 in
theorem parts_err (k : Nat) (A0 : Option Addr) (c0 : Nat) (l0 : List Int) (er p d : Int) (w : World) (hr0 : Kd.C (Kd.int .u8) w A0 l0.length l0) (hc0 : l0.length ≤ c0) (hw : well_walk.f k l0 = some (er, p, d)) (he : er ≠ 0) :
    Calls Try.prog 12 #[.slice A0 l0.length c0] w (PartsPost w [] er) := by
  have HL := Aside0.mk hw
  have HC := Aside0.mk hr0
  clear hw hr0
  have n1 : ((er : Int) != 0) = true := bne_iff_ne.mpr he
  have n2 : ((er : Int) == 0) = false := beq_eq_false_iff_ne.mpr he
  clear he
  go_enter Try.func12, Try.ntmps12
  go_wp2_with ((go_at_call 23; refine (well_walk.calls k A0 c0 l0 er p d _ HC.out hc0 HL.out).mono ?_; rintro e we ⟨g, S, rfl, hW, hB⟩; have HB := Aside0.mk hB; clear hB hW))
  go_ret2
  exact ⟨_, rfl, Kd.S_nil _ _ _ _ _, HB.out⟩
set_option maxHeartbeats 4000000 in
set_option maxRecDepth 100000 in
theorem parts_leaf (k : Nat) (A0 : Option Addr) (c0 : Nat) (l0 : List Int) (p d : Int) (w : World) (hr0 : Kd.C (Kd.int .u8) w A0 l0.length l0) (hc0 : l0.length ≤ c0) (hw : well_walk.f k l0 = some (0, p, d)) (r1 r2 r4 r5 : Int) (r6 r7 : List Int) (r8 : Int) (h1 : tlv_One.f k l0 = some (r1, r2, false, r4, r5, r6, r7, r8)) :
    Calls Try.prog 12 #[.slice A0 l0.length c0] w (PartsPost w [] 7) := by
  have hu35 := Try.underlying35
  have HL := Aside0.mk hw
  have HO := Aside0.mk h1
  have HC := Aside0.mk hr0
  clear hw hr0 h1
  go_enter Try.func12, Try.ntmps12
  go_wp2_with (first
    | (go_at_call 23; refine (well_walk.calls k A0 c0 l0 0 p d _ HC.out hc0 HL.out).mono ?_; rintro e we ⟨g, S, rfl, hW, hB⟩; have HB := Aside0.mk hB; clear hB hW)
    | (go_at_call 21; refine (tlv_One.calls k A0 c0 l0 r1 r2 false r4 r5 r6 r7 r8 _ (Kd.C_below HC.out HB.out) hc0 HO.out).mono ?_; rintro e wf ⟨v5, v6, rfl, hR5, hR6, hB2⟩; have HB2 := Aside0.mk hB2; clear hB2 hR5 hR6))
  go_ret2
  exact ⟨_, rfl, Kd.S_nil _ _ _ _ _, below_alloc (below_step HB.out HB2.out) _⟩
theorem info22p : (Try.prog.info? 22).map (fun i => (i.zero, i.size, i.bytes)) = some (some (.slice none 0 0), 1, 24) := by kernel_rfl
theorem clone_facts {wp wq : World} {base : Nat} {vc : Value} {cc : List Int} (h : Kd.R (Kd.int .u8) 5 wq wp.drew.heap.size (fun _ => True) vc cc) (hb : base ≤ wp.heap.size) : Kd.R (Kd.int .u8) 5 wq base (fun k_ => wp.heap.size ≤ k_) vc cc :=
  Kd.R_lower (Kd.R_mono (Kd.R_bound h) (fun k_ h => h.2.1)) hb
theorem gather_facts {wp wq : World} {base : Nat} {v : Value} {xs : List (List Int)} (h : Kd.S (Kd.slice 5 (Kd.int .u8)) 22 wp base (fun _ => True) v xs) (hb : Below wp.drew.heap.size wp.drew wq) :
    Kd.S (Kd.slice 5 (Kd.int .u8)) 22 wq base (fun k_ => (fun _ => True) k_ ∧ ¬ (fun k_ => wp.heap.size ≤ k_) k_) v xs :=
  Kd.S_below (Kd.S_drew (Kd.S_mono (Kd.S_bound h) (fun k h => ⟨trivial, fun q => Nat.lt_irrefl _ (Nat.lt_of_lt_of_le h.2.2.1 q)⟩))) hb
theorem own_lt_ {α : Type} {d : Kd α} {e : Nat} {W : World} {base : Nat} {ok : Nat → Prop} {v : Value} {xs : List α} (h : d.R e W base ok v xs) : ∀ k, v.ownBlock = some k → k < W.heap.size := by
  obtain ⟨_, inner, ho, _⟩ := h
  exact fun k hk => own_lt ho k hk
/-- The loop's relation: what rests is read in w1; what was gathered lies in memory that is younger than w1. -/
def PartsRel (k : Nat) (w1 : World) (r1 : List (List Int)) (r2 : Int) (kq : Nat) (v2 v5 : Value) (w' : World) : Prop :=
  ∃ (A : Option Addr) (rest : List Int) (c : Nat) (acc : List (List Int)), v5 = .slice A rest.length c ∧ rest.length ≤ c ∧ Kd.C (Kd.int .u8) w1 A rest.length rest ∧ well_Parts.l0 kq rest acc = some (r1, r2) ∧ kq ≤ k ∧ Kd.S (Kd.slice 5 (Kd.int .u8)) 22 w' w1.heap.size (fun _ => True) v2 acc ∧ Below w1.heap.size w1 w'
set_option maxHeartbeats 8000000 in
set_option maxRecDepth 100000 in
theorem parts_ok (k : Nat) (A0 : Option Addr) (c0 : Nat) (l0 : List Int) (p d : Int) (w : World) (hr0 : Kd.C (Kd.int .u8) w A0 l0.length l0) (hc0 : l0.length ≤ c0) (hw : well_walk.f k l0 = some (0, p, d)) (q1 q2 q4 q5 : Int) (q6 q7 : List Int) (q8 : Int) (h1 : tlv_One.f k l0 = some (q1, q2, true, q4, q5, q6, q7, q8))
    (r1 : List (List Int)) (r2 : Int) (hl : well_Parts.l0 k q6 [] = some (r1, r2)) :
    Calls Try.prog 12 #[.slice A0 l0.length c0] w (PartsPost w r1 r2) := by
  have hu35 := Try.underlying35
  have HL := Aside0.mk hw
  have HO := Aside0.mk h1
  have HC := Aside0.mk hr0
  have HP := Aside0.mk hl
  clear hw hr0 h1 hl
  go_enter Try.func12, Try.ntmps12
  go_wp2_with (first
    | (go_at_call 23; refine (well_walk.calls k A0 c0 l0 0 p d _ HC.out hc0 HL.out).mono ?_; rintro e we ⟨g, S, rfl, hW, hB⟩; have HB := Aside0.mk hB; clear hB hW)
    | (go_at_call 21; refine (tlv_One.calls k A0 c0 l0 q1 q2 true q4 q5 q6 q7 q8 _ (Kd.C_below HC.out HB.out) hc0 HO.out).mono ?_; rintro e wf ⟨v5, v6, rfl, hR5, hR6, hB2⟩; have HB2 := Aside0.mk hB2; obtain ⟨A5, c5, rfl, hc5, hC5⟩ := Kd.R_reads hR5; have HC5 := Aside0.mk hc5; have HR5 := Aside0.mk hC5; clear hB2 hR5 hR6 hc5 hC5))
  generalize hw1 : wf.alloc (.cells #[.int .i64 q1, .int .i64 q2, .bool true, .int .i64 q4, .int .i64 q5] 35) = w1
  have HB3 := Aside0.mk (show Below w.heap.size w w1 from hw1 ▸ below_alloc (below_step HB.out HB2.out) _)
  have HR6 := Aside0.mk (show Kd.C (Kd.int .u8) w1 A5 q6.length q6 from hw1 ▸ Kd.C_alloc HR5.out _)
  clear HB HB2 HR5 hw1
  go_loopg [2, 5] k (fun kq v2 v5 w' => PartsRel k w1 r1 r2 kq v2 v5 w')
  case atStart => exact ⟨A5, q6, c5, [], rfl, HC5.out, HR6.out, HP.out, Nat.le_refl _, Kd.S_nil _ _ _ _ _, Below.refl _ _⟩
  case round =>
    unfold PartsRel at hrel
    obtain ⟨A, rest, c, acc, rfl, hrc, hC, hk, hkk, hR, hBx⟩ := hrel
    have HCx := Aside0.mk hC
    have HRx := Aside0.mk hR
    have HBx := Aside0.mk hBx
    have HRC := Aside0.mk hrc
    clear hC hR hBx HP
    cases gk with
    | zero => cases hk
    | succ k1 =>
      rw [well_Parts.l0] at hk
      by_cases h0 : 0 < rest.length
      · rw [if_pos h0] at hk
        obtain ⟨⟨s1, s2, s3, s4, s5, s6⟩, hrd, hk⟩ := Option.bind_eq_some_iff.mp hk
        dsimp only at hk
        by_cases hg : ¬ (0 ≤ s5 ∧ s5 ≤ 4294967296 ∧ 0 ≤ s4 ∧ s4 ≤ 4294967296 ∧ s5 + s4 ≤ (rest.length : Int) ∧ acc.length < 1000000000)
        · rw [if_neg hg] at hk; cases hk
        replace hg := Decidable.of_not_not hg
        rw [if_pos hg] at hk
        obtain ⟨g1, g2, g3, g4, g5, g6⟩ := hg
        obtain ⟨cc, hcc, hk⟩ := Option.bind_eq_some_iff.mp hk
        have HRD := Aside0.mk hrd
        have HCC := Aside0.mk hcc
        have HK := Aside0.mk hk
        clear hrd hcc hk
        have e0 : decide (0 < rest.length) = true := decide_eq_true h0
        have e0' : decide ((0 : Int) < (rest.length : Int)) = true := decide_eq_true (by omega)
        have e1 : IntKind.i64.wrap (s5 + s4) = s5 + s4 := by rw [IntKind.wrap_i64]; omega
        go_upto_region 10 with ((go_at_call 22; refine (tlv_Read.calls k1 _ _ rest s1 s2 s3 s4 s5 s6 _ (Kd.C_below HCx.out HBx.out) HRC.out HRD.out).mono ?_; rintro e wg ⟨rfl, hB4⟩; have HB4 := Aside0.mk hB4; clear hB4))
        generalize hwp : wg.alloc (.cells #[.int .i64 s1, .int .i64 s2, .bool s3, .int .i64 s4, .int .i64 s5] 35) = wp
        have HB5 := Aside0.mk (show Below wr.heap.size wr wp from hwp ▸ below_alloc HB4.out _)
        clear HB4 hwp
        have HR7 := Aside0.mk (Kd.S_below HRx.out HB5.out)
        have HB6 := Aside0.mk (below_step HBx.out HB5.out)
        clear HRx HBx HB5 HRD
        obtain ⟨i5, hi5, _, hsz5, _⟩ := info_parts info5
        obtain ⟨hcutA, hA1, hC1⟩ := print_take_of (P := Try.prog) (Value.int .u8) 0 22 5 .i64 Try.underlying22 hi5 hsz5 A c rest (s5 + s4) (by omega) g5 HRC.out
        obtain ⟨A2, hcutB, hA2, hC2⟩ := print_drop_of (P := Try.prog) (Value.int .u8) 0 22 5 .i64 Try.underlying22 hi5 hsz5 A c rest (s5 + s4) (by omega) g5 HRC.out
        have HT := Aside0.mk (Kd.C_of_reads (h1 := fun _ => rfl) (hA1 _ (Kd.reads_of_C HCx.out)))
        have HT1 := Aside0.mk hC1
        have HD := Aside0.mk (Kd.C_of_reads (h1 := fun _ => rfl) (hA2 _ (Kd.reads_of_C HCx.out)))
        have HD1 := Aside0.mk hC2
        clear hA1 hC1 hA2 hC2 hi5 hsz5
        obtain ⟨qt, hqt⟩ : ∃ q, q = rest.take (s5 + s4).toNat := ⟨_, rfl⟩
        obtain ⟨qd, hqd⟩ : ∃ q, q = rest.drop (s5 + s4).toNat := ⟨_, rfl⟩
        rw [← hqt] at hcutA HT HT1 HCC
        rw [← hqd] at hcutB HD HD1 HK
        clear hqt hqd h0 e0 e0' e1
        obtain ⟨Av, cv, rfl⟩ := Kd.S_slice HR7.out
        go_region_law (first
          | (refine Kd.S_append_step (Kd.slice 5 (Kd.int .u8)) (w0 := w1) w1.heap.size rfl (.tmp 42) (.tmp 47) 27 22 (.slice none 0 0) 24 rfl Try.underlying27 info22p rfl (by decide) (by decide) (.slice Av acc.length cv) acc cc [.slice Ac cc.length ccap] (fun _ => True) (fun k_ => wp.heap.size ≤ k_) (by simp [Act.eval, Act.put]) (by simp [Act.eval, Act.put]) ⟨_, rfl, HVC.out⟩ (fun k_ hk => ⟨trivial, fun q => Nat.lt_irrefl _ (Nat.lt_of_lt_of_le (own_lt_ (Kd.S_R HR7.out) k_ q.symm) hk)⟩) (fun _ _ => trivial) HR8.out HB7.out HB7.out.size (by omega) ?_; intro v1 w2 hR9 hB9 _ _; have HR9 := Aside0.mk hR9; have HB9 := Aside0.mk hB9; clear hR9 hB9)
          | (go_simp; go_at_call 24; refine (bytes_Clone.calls _ _ qt cc _ (Kd.C_below HT.out (below_drew HB6.out)) HT1.out HCC.out).mono ?_; rintro e wq ⟨vc, rfl, hvc, hbc⟩; obtain ⟨Ac, ccap, rfl⟩ := Kd.R_slice hvc; have HVC := Aside0.mk (clone_facts hvc HB6.out.size); have HB7 := Aside0.mk (below_step (below_drew HB6.out) hbc); have HR8 := Aside0.mk (gather_facts HR7.out hbc); clear hvc hbc))
        all_goals
          go_wp2_with fail
          go_roundg k1
          case measure => omega
          case rel => exact ⟨A2, qd, _, acc ++ [cc], rfl, HD1.out, HD.out, HK.out, by omega, HR9.out, HB9.out⟩
      · rw [if_neg h0] at hk
        simp only [Option.some.injEq, Prod.mk.injEq] at hk
        obtain ⟨rfl, rfl⟩ := hk
        have e0 : decide (0 < rest.length) = false := decide_eq_false h0
        have e0' : decide ((0 : Int) < (rest.length : Int)) = false := decide_eq_false (by omega)
        go_wp2_with fail
        go_ret2
        exact ⟨_, rfl, Kd.S_lower HRx.out HB3.out.size, below_step HB3.out HBx.out⟩
theorem well_Parts.calls (k : Nat) (A0 : Option Addr) (c0 : Nat) (l0 : List Int) (r1 : List (List Int)) (r2 : Int) (w : World) (hr0 : Kd.C (Kd.int .u8) w A0 l0.length l0) (hc0 : l0.length ≤ c0) (h : well_Parts.f k l0 = some (r1, r2)) :
    Calls Try.prog 12 #[.slice A0 l0.length c0] w fun e w' => ∃ v0_ : Value, e = .returned (.tuple #[v0_, .int .i64 r2]) ∧ Kd.S (Kd.slice 5 (Kd.int .u8)) 22 w' w.heap.size (fun _ => True) v0_ r1 ∧ Below w.heap.size w w' := by
  unfold well_Parts.f at h
  obtain ⟨⟨er, p, d⟩, hw, h⟩ := Option.bind_eq_some_iff.mp h
  dsimp only at h
  by_cases he : er = 0
  · subst he
    rw [if_pos rfl] at h
    obtain ⟨⟨q1, q2, q3, q4, q5, q6, q7, q8⟩, h1, h⟩ := Option.bind_eq_some_iff.mp h
    dsimp only at h
    cases q3 with
    | false =>
      rw [if_neg (show ¬ (false = true) by decide)] at h
      simp only [Option.some.injEq, Prod.mk.injEq] at h
      obtain ⟨rfl, rfl⟩ := h
      exact parts_leaf k A0 c0 l0 p d w hr0 hc0 hw q1 q2 q4 q5 q6 q7 q8 h1
    | true =>
      rw [if_pos rfl] at h
      exact parts_ok k A0 c0 l0 p d w hr0 hc0 hw q1 q2 q4 q5 q6 q7 q8 h1 r1 r2 h
  · rw [if_neg he] at h
    simp only [Option.some.injEq, Prod.mk.injEq] at h
    obtain ⟨rfl, rfl⟩ := h
    exact parts_err k A0 c0 l0 er p d w hr0 hc0 hw he
end Go.Proofs.Ytogbpdmncnldhaa.Base
