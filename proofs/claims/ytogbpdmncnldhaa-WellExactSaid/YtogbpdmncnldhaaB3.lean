/- The contract of the walker's next: under the walker's state it steps as well_walker_next.f says. -/
import Derived.Test.YtogbpdmncnldhaaB0
import Derived.Test.YtogbpdmncnldhaaB2
namespace Go.Proofs.Ytogbpdmncnldhaa.Base
open Go.RowKit Go.Proofs.YtogbpdmncnldhaaW.PrintWords Go.Proofs.YtogbpdmncnldhaaW.PrintLast Go.Proofs.YtogbpdmncnldhaaW.PrintMore
attribute [local go_sem] max2_int min2_int max_two min_two max_three min_three max_four min_four   -- for this text's walks alone
set_option linter.unusedVariables false
set_option linter.unusedSimpArgs false
set_option linter.unnecessarySimpa false
/-- The walker at block g of W: bytes l, place p, the ends S (the innermost first), depth d. -/
def IsW (w0 W : World) (g : Nat) (l : List Int) (p : Int) (S : List Int) (d : Int) : Prop :=
  ∃ (A0 : Option Addr) (c0 : Nat) (Av : Option Addr) (cv : Nat), W.heap[g]? = some (.cells #[.slice A0 l.length c0, .int .i64 p, .slice Av S.length cv, .int .i64 d] 55 (0, 0)) ∧ w0.heap.size ≤ g ∧ Kd.C (Kd.int .u8) w0 A0 l.length l ∧ l.length ≤ c0 ∧
    W.ownsRow w0.heap.size 3 1 (.slice Av S.length cv) S.length (S.reverse.map (Value.int .i64))
theorem isW_lt {w0 W : World} {g : Nat} {l : List Int} {p : Int} {S : List Int} {d : Int} (h : IsW w0 W g l p S d) : g < W.heap.size := by
  obtain ⟨A0, c0, Av, cv, h1, _⟩ := h
  rcases Nat.lt_or_ge g W.heap.size with hlt | hge
  · exact hlt
  · rw [Array.getElem?_eq_none hge] at h1; cases h1
theorem row_moved {W W1 : World} {base : Nat} {e : TypeId} {v : Value} {n : Nat} {xs : List Value} (h : W.ownsRow base e 1 v n xs) (hk : ∀ i, v.ownBlock = some i → W1.heap[i]? = W.heap[i]?) : W1.ownsRow base e 1 v n xs := by
  refine ⟨h.1, ?_⟩
  rcases h.2 with h2 | ⟨b, cap, cur, hv, hb, hg, h3⟩
  · exact .inl h2
  · exact .inr ⟨b, cap, cur, hv, hb, by rw [hk b (by rw [hv]; rfl)]; exact hg, h3⟩
theorem row_ne {W : World} {base : Nat} {e : TypeId} {v : Value} {n : Nat} {xs : List Value} (h : W.ownsRow base e 1 v n xs) {g : Nat} {cs : Array Value} {t : TypeId} {fr : Nat × Nat} (hg : W.heap[g]? = some (.cells cs t fr)) (hne : t ≠ e) : v.ownBlock ≠ some g := by
  intro hv
  rcases h.2 with ⟨rfl, _⟩ | ⟨b, cap, cur, rfl, _, hb, _⟩
  · cases hv
  · simp only [Value.ownBlock, Option.some.injEq] at hv
    subst hv
    rw [hg] at hb
    simp only [Option.some.injEq, Obj.cells.injEq] at hb
    exact hne hb.2.1
theorem isW_kept {w0 W W1 : World} {g : Nat} {l : List Int} {p : Int} {S : List Int} {d : Int} (h : IsW w0 W g l p S d) (hk : ∀ i, i < W.heap.size → W1.heap[i]? = W.heap[i]?) : IsW w0 W1 g l p S d := by
  have hlt := isW_lt h
  obtain ⟨A0, c0, Av, cv, h1, h2, h3, h4, h5⟩ := h
  exact ⟨A0, c0, Av, cv, by rw [hk g hlt]; exact h1, h2, h3, h4, row_moved h5 (fun i hi => hk i (h5.lt i hi).2)⟩
theorem isW_below {w0 W W1 : World} {g : Nat} {l : List Int} {p : Int} {S : List Int} {d : Int} (h : IsW w0 W g l p S d) (hb : Below W.heap.size W W1) : IsW w0 W1 g l p S d :=
  isW_kept h (fun i hi => hb.block i hi)
theorem row_last {W : World} {base : Nat} {Av : Option Addr} {n cv : Nat} {S : List Int} {x : Int} (h : W.ownsRow base 3 1 (.slice Av n cv) n ((x :: S).reverse.map (Value.int .i64))) :
    ∃ b, Av = some ⟨b, 0, none⟩ ∧ n = S.length + 1 ∧ n ≤ cv ∧ cv ≤ maxLen ∧ base ≤ b ∧ W.cell? ⟨b, S.length, none⟩ = some (.int .i64 x) := by
  have hl := h.1
  simp only [List.length_map, List.length_reverse, List.length_cons, Nat.mul_one] at hl
  rcases h.2 with ⟨_, h0⟩ | ⟨b, cap, cur, hv, hb, hg, hn, hm, hs, ht⟩
  · omega
  · simp only [Value.slice.injEq] at hv
    obtain ⟨rfl, _, rfl⟩ := hv
    refine ⟨b, rfl, hl.symm, hn, hm, hb, ?_⟩
    rw [cell_of_row W b S.length cur 3 (0, 0) hg]
    have h2 : (cur.toList.take (n * 1))[S.length]? = ((x :: S).reverse.map (Value.int .i64))[S.length]? := by rw [ht]
    rw [List.getElem?_take_of_lt (by omega)] at h2
    rw [← Array.getElem?_toList, h2]
    simp
theorem row_cut {W : World} {base : Nat} {b n cv : Nat} {S : List Int} {x : Int} (h : W.ownsRow base 3 1 (.slice (some ⟨b, 0, none⟩) (n + 1) cv) (n + 1) ((x :: S).reverse.map (Value.int .i64))) :
    W.ownsRow base 3 1 (.slice (some ⟨b, 0, none⟩) n cv) n (S.reverse.map (Value.int .i64)) := by
  have hl := h.1
  simp only [List.length_map, List.length_reverse, List.length_cons, Nat.mul_one] at hl
  refine ⟨by simp; omega, ?_⟩
  rcases h.2 with ⟨h0, _⟩ | ⟨b', cap, cur, hv, hb, hg, hn, hm, hs, ht⟩
  · cases h0
  · simp only [Value.slice.injEq, Option.some.injEq, Addr.mk.injEq] at hv
    obtain ⟨⟨rfl, _, _⟩, _, rfl⟩ := hv
    refine .inr ⟨b, cv, cur, rfl, hb, hg, by omega, hm, hs, ?_⟩
    have h2 := congrArg (List.take n) ht
    rw [List.take_take, List.reverse_cons, List.map_append, List.take_left' (by simp; omega)] at h2
    rw [← h2]
    congr 1; omega
theorem isW_far {w0 W W1 : World} {g : Nat} {l : List Int} {p : Int} {S : List Int} {d : Int} (h : IsW w0 W g l p S d) (hs : W.heap.size ≤ W1.heap.size) {j : Nat} (hk : ∀ i, i < W.heap.size → i ≠ j → W1.heap[i]? = W.heap[i]?) (hj : j ≠ g) (hr : ∀ A0 c0 Av cv, W.heap[g]? = some (.cells #[.slice A0 l.length c0, .int .i64 p, .slice Av S.length cv, .int .i64 d] 55 (0, 0)) → (Value.slice Av S.length cv).ownBlock ≠ some j) : IsW w0 W1 g l p S d := by
  have hlt := isW_lt h
  obtain ⟨A0, c0, Av, cv, h1, h2, h3, h4, h5⟩ := h
  exact ⟨A0, c0, Av, cv, by rw [hk g hlt (Ne.symm hj)]; exact h1, h2, h3, h4, row_moved h5 (fun i hi => hk i (h5.lt i hi).2 (fun q => hr _ _ _ _ h1 (q ▸ hi)))⟩
theorem row_set {W : World} {base n : Nat} {v : Value} {xs : List Value} {g j : Nat} {u : Value} {cs : Array Value} {t : TypeId} {fr : Nat × Nat} (h : W.ownsRow base 3 1 v n xs) (hg : W.heap[g]? = some (.cells cs t fr)) (hne : t ≠ 3) : (W.setCell ⟨g, j, none⟩ u).ownsRow base 3 1 v n xs :=
  row_moved h (fun i hi => Below.heap_setCell W _ u i (fun q => row_ne h hg hne (by rw [hi, q])))
theorem isW_set1 {w0 W : World} {g : Nat} {l : List Int} {p : Int} {S : List Int} {d : Int} (x : Int) (h : IsW w0 W g l p S d) : IsW w0 (W.setCell ⟨g, 1, none⟩ (.int .i64 x)) g l x S d := by
  obtain ⟨A0, c0, Av, cv, h1, h2, h3, h4, h5⟩ := h
  exact ⟨A0, c0, Av, cv, blk_put h1 1 _ rfl, h2, h3, h4, row_set h5 h1 (by decide)⟩
theorem isW_set3 {w0 W : World} {g : Nat} {l : List Int} {p : Int} {S : List Int} {d : Int} (x : Int) (h : IsW w0 W g l p S d) : IsW w0 (W.setCell ⟨g, 3, none⟩ (.int .i64 x)) g l p S x := by
  obtain ⟨A0, c0, Av, cv, h1, h2, h3, h4, h5⟩ := h
  exact ⟨A0, c0, Av, cv, blk_put h1 3 _ rfl, h2, h3, h4, row_set h5 h1 (by decide)⟩
theorem isW_drew {w0 W : World} {g : Nat} {l : List Int} {p : Int} {S : List Int} {d : Int} (h : IsW w0 W g l p S d) : IsW w0 W.drew g l p S d := h
theorem isW_drewN {w0 W : World} {g : Nat} {l : List Int} {p : Int} {S : List Int} {d : Int} (h : IsW w0 W g l p S d) (m : Nat) : IsW w0 (W.drewN m) g l p S d := h
def NextPost (w0 : World) (g : Nat) (l : List Int) (p : Int) (S : List Int) (d er : Int) (e : Ending) (w' : World) : Prop := (∃ (a1 a2 : Int) (a3 : Bool) (a4 a5 : Int), e = .returned (.tuple #[.agg #[.int .i64 a1, .int .i64 a2, .bool a3, .int .i64 a4, .int .i64 a5], .int .i64 er])) ∧ IsW w0 w' g l p S d ∧ Below w0.heap.size w0 w'
def wtop (l S : List Int) : Int := match S with
  | [] => (l.length : Int)
  | e :: _ => e
def wpop (p : Int) : List Int → List Int
  | [] => []
  | e :: S => if p = e then wpop p S else e :: S
def well_walker_next.f (k : Nat) (l : List Int) (p : Int) (S : List Int) (d : Int) : Option (Int × Int × List Int × Int) :=
  if 32 ≤ S.length then some (6, p, S, d) else
  if 0 ≤ p ∧ p ≤ wtop l S ∧ wtop l S ≤ l.length ∧ l.length ≤ 1000000000000 then
    (tlv_Read.f k ((l.take (wtop l S).toNat).drop p.toNat)).bind fun b =>
      if b.2.2.2.2.2 = 0 then
        (if b.1 = 0 ∧ b.2.1 = 0 then some (3, p, S, d) else
          (well_right.f k b.1 b.2.1 b.2.2.1 b.2.2.2.1 b.2.2.2.2.1).bind fun ok =>
            if ok = true then
              (if 0 ≤ b.2.2.2.2.1 ∧ b.2.2.2.2.1 ≤ 4294967296 ∧ 0 ≤ b.2.2.2.1 ∧ b.2.2.2.1 ≤ 4294967296 then
                (if wtop l S - p - b.2.2.2.2.1 < b.2.2.2.1 then some (2, p, S, d) else
                  some (0, if b.2.2.1 = true then p + b.2.2.2.2.1 else p + b.2.2.2.2.1 + b.2.2.2.1,
                    wpop (if b.2.2.1 = true then p + b.2.2.2.2.1 else p + b.2.2.2.2.1 + b.2.2.2.1) ((p + b.2.2.2.2.1 + b.2.2.2.1) :: S),
                    if d < (S.length : Int) + 1 then (S.length : Int) + 1 else d))
              else none)
            else some (7, p, S, d))
      else some (b.2.2.2.2.2, p, S, d)
  else none
def hz35 : Array Value := #[.int .i64 0, .int .i64 0, .bool false, .int .i64 0, .int .i64 0]
def hd35 (r1 r2 : Int) (r3 : Bool) (r4 r5 : Int) : Array Value := #[.int .i64 r1, .int .i64 r2, .bool r3, .int .i64 r4, .int .i64 r5]
/-- Behind region 6: slot 5 points to the head that was read, slot 6 holds the error. -/
def RelB (wc : World) (r1 r2 : Int) (r3 : Bool) (r4 r5 r6 : Int) (v5 v6 : Value) (w' : World) : Prop := ∃ h, v5 = .pointer (some ⟨h, 0, none⟩) ∧ v6 = .int .i64 r6 ∧ wc.heap.size ≤ h ∧ w'.heap[h]? = some (.cells #[.int .i64 r1, .int .i64 r2, .bool r3, .int .i64 r4, .int .i64 r5] 35 (0, 0)) ∧ Below wc.heap.size wc w'
/-- Behind region 3: slot 4 holds the end. -/
def RelA (w : World) (en : Int) (v4 : Value) (w' : World) : Prop := v4 = .int .i64 en ∧ w'.heap[w.heap.size]? = some (.cells hz35 35 (0, 0)) ∧ Below w.heap.size w w'
theorem cell_below {W W1 : World} {a : Addr} {v : Value} (hb : Below W.heap.size W W1) (h : W.cell? a = some v) : W1.cell? a = some v := (hb.cell (World.block_lt_of_cell? W a h)).trans h
theorem below_set5 {w W : World} {g : Nat} {v0 v1 v2 v3 v4 : Value} (h : Below w.heap.size w W) (hg : w.heap.size ≤ g) :
    Below w.heap.size w (((((W.setCell ⟨g, 0, none⟩ v0).setCell ⟨g, 1, none⟩ v1).setCell ⟨g, 2, none⟩ v2).setCell ⟨g, 3, none⟩ v3).setCell ⟨g, 4, none⟩ v4) :=
  below_set (below_set (below_set (below_set (below_set h hg) hg) hg) hg) hg
theorem relB_mkA {wc w1 : World} {r1 r2 : Int} {r3 : Bool} {r4 r5 r6 : Int} {a0 a1 a2 a3 a4 : Value} (h : w1.heap[wc.heap.size]? = some (.cells #[a0, a1, a2, a3, a4] 35 (0, 0))) (hb : Below wc.heap.size wc w1) :
    RelB wc r1 r2 r3 r4 r5 r6 (.pointer (some ⟨wc.heap.size, 0, none⟩)) (.int .i64 r6) (((((w1.setCell ⟨wc.heap.size, 0, none⟩ (.int .i64 r1)).setCell ⟨wc.heap.size, 1, none⟩ (.int .i64 r2)).setCell ⟨wc.heap.size, 2, none⟩ (.bool r3)).setCell ⟨wc.heap.size, 3, none⟩ (.int .i64 r4)).setCell ⟨wc.heap.size, 4, none⟩ (.int .i64 r5)) :=
  ⟨wc.heap.size, rfl, rfl, Nat.le_refl _, read_put _ _ _ _ _ _ _ _ _ _ _ _ _ h, below_set5 hb (Nat.le_refl _)⟩
theorem relB_mkB {wc w1 : World} {r1 r2 : Int} {r3 : Bool} {r4 r5 r6 : Int} (hb : Below wc.heap.size wc w1) :
    RelB wc r1 r2 r3 r4 r5 r6 (.pointer (some ⟨w1.heap.size, 0, none⟩)) (.int .i64 r6) (w1.alloc (.cells #[.int .i64 r1, .int .i64 r2, .bool r3, .int .i64 r4, .int .i64 r5] 35)) :=
  ⟨w1.heap.size, rfl, rfl, hb.size, blk_new _ _, below_alloc hb _⟩
/-- Behind region 17: the new end stands on top. -/
def RelC (w0 w : World) (g h : Nat) (l : List Int) (p : Int) (S : List Int) (d r1 r2 : Int) (r3 : Bool) (r4 r5 : Int) (W : World) : Prop :=
  IsW w0 W g l p S d ∧ W.heap[h]? = some (.cells #[.int .i64 r1, .int .i64 r2, .bool r3, .int .i64 r4, .int .i64 r5] 35 (0, 0)) ∧ W.heap[w.heap.size]? = some (.cells #[.int .i64 0, .int .i64 0, .bool false, .int .i64 0, .int .i64 0] 35 (0, 0)) ∧ Below w0.heap.size w0 W
theorem relC_mk {w0 w wh w1 : World} {g h m : Nat} {l : List Int} {p x dd r1 r2 : Int} {S : List Int} {r3 : Bool} {r4 r5 : Int} {A3 : Option Addr} {c3 : Nat} {Av3 : Option Addr} {cv3 ge cap : Nat}
    (k1 : wh.heap[g]? = some (.cells #[.slice A3 l.length c3, .int .i64 p, .slice Av3 m cv3, .int .i64 dd] 55 (0, 0))) (k3 : Kd.C (Kd.int .u8) w0 A3 l.length l) (k4 : l.length ≤ c3) (hg : w0.heap.size ≤ g)
    (k5 : wh.ownsRow w0.heap.size 3 1 (.slice Av3 m cv3) m (S.reverse.map (Value.int .i64)))
    (bh : wh.heap[h]? = some (.cells #[.int .i64 r1, .int .i64 r2, .bool r3, .int .i64 r4, .int .i64 r5] 35 (0, 0))) (bz : wh.heap[w.heap.size]? = some (.cells #[.int .i64 0, .int .i64 0, .bool false, .int .i64 0, .int .i64 0] 35 (0, 0)))
    (hB : Below w0.heap.size w0 wh) (ne3 : h ≠ g) (ne5 : w.heap.size ≠ g)
    (hgrow : (wh.alloc (.cells #[.int .i64 x] 3)).drew.grownBy w1 (Value.slice Av3 m cv3).ownBlock)
    (hown : w1.ownsRow w0.heap.size 3 1 (.slice (some ⟨ge, 0, none⟩) (m + 1) cap) (m + 1) (S.reverse.map (Value.int .i64) ++ [Value.int .i64 x])) (hm : m = S.length) :
    RelC w0 w g h l p (x :: S) dd r1 r2 r3 r4 r5 (w1.setCell ⟨g, 2, none⟩ (.slice (some ⟨ge, 0, none⟩) (m + 1) cap)) := by
  have hl : ∀ {j : Nat} {o : Obj}, wh.heap[j]? = some o → j < (wh.alloc (.cells #[.int .i64 x] 3)).drew.heap.size := fun h => Nat.lt_of_lt_of_le (blk_lt h) (below_drew (below_alloc (Below.refl _ _) _)).size
  have K6 := (hgrow.block g (hl k1) (fun q => row_ne k5 k1 (by decide) q.symm)).trans (blk_drew (blk_alloc k1 (.cells #[.int .i64 x] 3)))
  have K7 := (hgrow.block h (hl bh) (fun q => row_ne k5 bh (by decide) q.symm)).trans (blk_drew (blk_alloc bh (.cells #[.int .i64 x] 3)))
  have K8 := (hgrow.block w.heap.size (hl bz) (fun q => row_ne k5 bz (by decide) q.symm)).trans (blk_drew (blk_alloc bz (.cells #[.int .i64 x] 3)))
  have hB1 : Below w0.heap.size w0 w1 := (below_alloc hB (.cells #[.int .i64 x] 3)).drew.grown hgrow (Nat.le_trans hB.size (below_drew (below_alloc (Below.refl _ _) _)).size) (fun k hk => (k5.lt k hk).1)
  refine ⟨⟨A3, c3, some ⟨ge, 0, none⟩, cap, ?_, hg, k3, k4, ?_⟩, blk_far K7 ne3 _, blk_far K8 ne5 _, below_set hB1 hg⟩
  · subst hm
    exact blk_put K6 2 _ rfl
  · subst hm
    rw [List.reverse_cons, List.map_append]
    exact row_set hown K6 (by decide)
theorem isW_z {w0 W : World} {g z j : Nat} {l : List Int} {p : Int} {S : List Int} {d : Int} {cs : Array Value} {u : Value} (h : IsW w0 W g l p S d) (hz : W.heap[z]? = some (.cells cs 35 (0, 0))) (hne : g ≠ z) :
    IsW w0 (W.setCell ⟨z, j, none⟩ u) g l p S d ∧ ∃ cs', (W.setCell ⟨z, j, none⟩ u).heap[z]? = some (.cells cs' 35 (0, 0)) := by
  obtain ⟨A0, c0, Av, cv, h1, h2, h3, h4, h5⟩ := h
  exact ⟨⟨A0, c0, Av, cv, blk_far h1 hne _, h2, h3, h4, row_set h5 hz (by decide)⟩, _, blk_set hz j u⟩
theorem next_okp {w0 w W : World} {g h : Nat} {l : List Int} {p dd r1 r2 : Int} {S : List Int} {r3 : Bool} {r4 r5 : Int} {v0 v1 v2 v3 v4 : Value} (hc : RelC w0 w g h l p S dd r1 r2 r3 r4 r5 W) (ne5 : g ≠ w.heap.size) (hz : w0.heap.size ≤ w.heap.size) (m : Nat) :
    NextPost w0 g l p S dd 0 (.returned (.tuple #[.agg (hd35 r1 r2 r3 r4 r5), .int .i64 0])) ((((((W.drewN m).setCell ⟨w.heap.size, 0, none⟩ v0).setCell ⟨w.heap.size, 1, none⟩ v1).setCell ⟨w.heap.size, 2, none⟩ v2).setCell ⟨w.heap.size, 3, none⟩ v3).setCell ⟨w.heap.size, 4, none⟩ v4) := by
  obtain ⟨h1, _, h3, h4⟩ := hc
  obtain ⟨i1, c1, b1⟩ := isW_z (j := 0) (u := v0) (isW_drewN h1 m) (blk_drewN h3 m) ne5
  obtain ⟨i2, c2, b2⟩ := isW_z (j := 1) (u := v1) i1 b1 ne5
  obtain ⟨i3, c3, b3⟩ := isW_z (j := 2) (u := v2) i2 b2 ne5
  obtain ⟨i4, c4, b4⟩ := isW_z (j := 3) (u := v3) i3 b3 ne5
  obtain ⟨i5, c5, b5⟩ := isW_z (j := 4) (u := v4) i4 b4 ne5
  exact ⟨⟨r1, r2, r3, r4, r5, rfl⟩, i5, below_set5 (pw_below_drewN h4 m) hz⟩
theorem relC_drewN {w0 w W : World} {g h : Nat} {l : List Int} {p dd r1 r2 : Int} {S : List Int} {r3 : Bool} {r4 r5 : Int} (hc : RelC w0 w g h l p S dd r1 r2 r3 r4 r5 W) (m : Nat) : RelC w0 w g h l p S dd r1 r2 r3 r4 r5 (W.drewN m) :=
  ⟨isW_drewN hc.1 m, blk_drewN hc.2.1 m, blk_drewN hc.2.2.1 m, pw_below_drewN hc.2.2.2 m⟩
theorem relC_set1 {w0 w W : World} {g h : Nat} {l : List Int} {p x dd r1 r2 : Int} {S : List Int} {r3 : Bool} {r4 r5 : Int} (hc : RelC w0 w g h l p S dd r1 r2 r3 r4 r5 W) (ne3 : h ≠ g) (ne5 : w.heap.size ≠ g) :
    RelC w0 w g h l x S dd r1 r2 r3 r4 r5 (W.setCell ⟨g, 1, none⟩ (.int .i64 x)).drew := by
  obtain ⟨h1, h2, h3, h4⟩ := hc
  have hg : w0.heap.size ≤ g := by obtain ⟨_, _, _, _, _, q, _⟩ := h1; exact q
  exact ⟨isW_drew (isW_set1 x h1), blk_drew (blk_far h2 ne3 _), blk_drew (blk_far h3 ne5 _), (below_set h4 hg).drew⟩
theorem relC_pop {w0 w W : World} {g h : Nat} {l : List Int} {p x dd r1 r2 : Int} {S : List Int} {r3 : Bool} {r4 r5 : Int} {A0 : Option Addr} {c0 b n cv : Nat} (hc : RelC w0 w g h l p (x :: S) dd r1 r2 r3 r4 r5 W) (ne3 : h ≠ g) (ne5 : w.heap.size ≠ g)
    (k1 : W.heap[g]? = some (.cells #[.slice A0 l.length c0, .int .i64 p, .slice (some ⟨b, 0, none⟩) (n + 1) cv, .int .i64 dd] 55 (0, 0))) (hn : n = S.length) :
    RelC w0 w g h l p S dd r1 r2 r3 r4 r5 (W.setCell ⟨g, 2, none⟩ (.slice (some ⟨b, 0, none⟩) n cv)).drew := by
  obtain ⟨h1, h2, h3, h4⟩ := hc
  obtain ⟨A1, c1, Av, cw, q1, hg, q3, q4, q5⟩ := h1
  rw [k1] at q1
  simp only [Option.some.injEq, Obj.cells.injEq, Array.mk.injEq, List.cons.injEq, Value.slice.injEq, true_and, and_true] at q1
  obtain ⟨⟨rfl, rfl⟩, rfl, hl, rfl⟩ := q1
  subst hn
  refine ⟨isW_drew ⟨A0, c0, some ⟨b, 0, none⟩, cv, blk_put k1 2 _ rfl, hg, q3, q4, row_set (row_cut q5) k1 (by decide)⟩, blk_drew (blk_far h2 ne3 _), blk_drew (blk_far h3 ne5 _), (below_set h4 hg).drew⟩
theorem bcell_ {W w1 : World} (hb : Below W.heap.size W w1) : (∀ b o, b < W.heap.size → w1.cell? ⟨b, o, none⟩ = W.cell? ⟨b, o, none⟩) ∧ (∀ b o, b < W.heap.size → w1.frozen? ⟨b, o, none⟩ = W.frozen? ⟨b, o, none⟩) :=
  ⟨fun b o h => hb.cell (p := ⟨b, o, none⟩) h, fun b o h => hb.frozen (p := ⟨b, o, none⟩) h⟩
theorem relA_mk (w : World) (en : Int) (m : Nat) : RelA w en (.int .i64 en) ((w.alloc (.cells hz35 35)).drewN m) := ⟨rfl, blk_drewN (blk_new w _) m, pw_below_drewN (below_alloc (Below.refl _ _) _) m⟩
theorem relA_mk0 (w : World) (en : Int) : RelA w en (.int .i64 en) (w.alloc (.cells hz35 35)) := ⟨rfl, blk_new w _, below_alloc (Below.refl _ _) _⟩
theorem next_post {w0 w W : World} {g : Nat} {l : List Int} {p : Int} {S : List Int} {d er : Int} (hI : IsW w0 w g l p S d) (hB : Below w0.heap.size w0 w) (hb : Below w.heap.size w W) : NextPost w0 g l p S d er (.returned (.tuple #[.agg hz35, .int .i64 er])) W :=
  ⟨⟨0, 0, false, 0, 0, rfl⟩, isW_below hI hb, below_step hB hb⟩
def findReg (n : Nat) : Code → Option Code
  | .region id ops b => if id = n then some (.region id ops b) else none
  | .loop c => findReg n c
  | .seq a b => match findReg n a with
    | some c => some c
    | none => findReg n b
  | .block _ c => findReg n c
  | .scope c => findReg n c
  | .cond _ a b => match findReg n a with
    | some c => some c
    | none => findReg n b
  | _ => none
noncomputable def reg6 : Code := (Try.f31.body.bind (findReg 6)).getD .skip
set_option maxHeartbeats 8000000 in
set_option maxRecDepth 100000 in
theorem region6 (k g : Nat) (A0 : Option Addr) (n0 c0 : Nat) (p en d : Int) (Av : Option Addr) (nv cv : Nat) (A1 : Option Addr) (cq : Nat) (q : List Int) (r1 r2 : Int) (r3 : Bool) (r4 r5 r6 : Int) (a1 a2 a3 a5 a6 a7 a8 a9 a10 a11 a12 a13 a14 a15 a16 a17 a18 a19 a20 a21 a22 a23 a24 a25 a26 a27 a28 a29 a30 a31 a32 a33 a34 a35 a36 a37 a38 a39 a40 a41 a42 a43 a44 a45 a46 a47 a48 a49 a50 a51 a52 a53 a54 a55 a56 a57 a58 a59 a60 a61 a62 a63 a64 a65 a66 a67 a68 a69 a70 a71 a72 a73 a74 a75 a76 a77 a78 a79 a80 a81 a82 a83 a84 a85 a86 a87 a88 a89 a90 a91 a92 a93 a94 a95 a96 a97 a98 a99 a100 a101 a102 a103 a104 a105 a106 a107 a108 a109 a110 a111 a112 a113 a114 a115 a116 a117 a118 a119 a120 a121 a122 a123 a124 a125 a126 a127 a128 a129 a130 a131 a132 a133 a134 a135 a136 a137 a138 a139 a140 a141 a142 a143 a144 a145 a146 a147 a148 a149 a150 a151 a152 a153 a154 a155 a156 a157 a158 a159 a160 a161 a162 a163 a164 a165 a166 a167 a168 a169 a170 a171 a172 a173 a174 a175 : Value) (wa : World) (K : Act → World → Prop) (R : Ending → World → Prop)
    (K1 : wa.heap[g]? = some (.cells #[.slice A0 n0 c0, .int .i64 p, .slice Av nv cv, .int .i64 d] 55 (0, 0)))
    (hcut : ∀ W : World, (Instr.slice 22 (.slice A0 n0 c0) (some (.int .i64 p)) (some (.int .i64 en)) none).run Try.prog W = .ok (.slice A1 q.length cq) W)
    (hC : Kd.C (Kd.int .u8) wa A1 q.length q) (hC1 : q.length ≤ cq) (hr : tlv_Read.f k q = some (r1, r2, r3, r4, r5, r6))
    (hQ : ∀ h W, RelB wa r1 r2 r3 r4 r5 r6 (.pointer (some ⟨h, 0, none⟩)) (.int .i64 r6) W → K ⟨#[.pointer (some ⟨g, 0, none⟩), a1, a2, a3, .int .i64 en, .pointer (some ⟨h, 0, none⟩), .int .i64 r6, a7, a8, a9, a10, a11, a12, a13, a14, a15, a16, a17, a18, a19, a20, a21, a22, a23, a24, a25, a26, a27, a28, a29, a30, a31, a32, a33, a34, a35, a36, .tuple #[.agg #[.int .i64 r1, .int .i64 r2, .bool r3, .int .i64 r4, .int .i64 r5], .int .i64 r6], .pointer (some ⟨g, 0, none⟩), .pointer (some ⟨g, 0, none⟩), .pointer (some ⟨g, 0, none⟩), .slice A0 n0 c0, .pointer (some ⟨g, 0, none⟩), .pointer (some ⟨g, 0, none⟩), .pointer (some ⟨g, 1, none⟩), .int .i64 p, .int .i64 en, .slice A1 q.length cq, .tuple #[.agg #[.int .i64 r1, .int .i64 r2, .bool r3, .int .i64 r4, .int .i64 r5], .int .i64 r6], .agg #[.int .i64 r1, .int .i64 r2, .bool r3, .int .i64 r4, .int .i64 r5], .int .i64 r6, a51, a52, a53, a54, a55, a56, a57, a58, a59, a60, a61, a62, a63, a64, a65, a66, a67, a68, a69, a70, a71, a72, a73, a74, a75, a76, a77, a78, a79, a80, a81, a82, a83, a84, a85, a86, a87, a88, a89, a90, a91, a92, a93, a94, a95, a96, a97, a98, a99, a100, a101, a102, a103, a104, a105, a106, a107, a108, a109, a110, a111, a112, a113, a114, a115, a116, a117, a118, a119, a120, a121, a122, a123, a124, a125, a126, a127, a128, a129, a130, a131, a132, a133, a134, a135, a136, a137, a138, a139, a140, a141, a142, a143, a144, a145, a146, a147, a148, a149, a150, a151, a152, a153, a154, a155, a156, a157, a158, a159, a160, a161, a162, a163, a164, a165, a166, a167, a168, a169, a170, a171, a172, a173, a174, a175], []⟩ W) :
    Code.wp Try.prog reg6 (Exit.then K (bodyPost Try.prog Try.f31 R)) ⟨#[.pointer (some ⟨g, 0, none⟩), a1, a2, a3, .int .i64 en, a5, a6, a7, a8, a9, a10, a11, a12, a13, a14, a15, a16, a17, a18, a19, a20, a21, a22, a23, a24, a25, a26, a27, a28, a29, a30, a31, a32, a33, a34, a35, a36, a37, a38, a39, a40, a41, a42, a43, a44, a45, a46, a47, a48, a49, a50, a51, a52, a53, a54, a55, a56, a57, a58, a59, a60, a61, a62, a63, a64, a65, a66, a67, a68, a69, a70, a71, a72, a73, a74, a75, a76, a77, a78, a79, a80, a81, a82, a83, a84, a85, a86, a87, a88, a89, a90, a91, a92, a93, a94, a95, a96, a97, a98, a99, a100, a101, a102, a103, a104, a105, a106, a107, a108, a109, a110, a111, a112, a113, a114, a115, a116, a117, a118, a119, a120, a121, a122, a123, a124, a125, a126, a127, a128, a129, a130, a131, a132, a133, a134, a135, a136, a137, a138, a139, a140, a141, a142, a143, a144, a145, a146, a147, a148, a149, a150, a151, a152, a153, a154, a155, a156, a157, a158, a159, a160, a161, a162, a163, a164, a165, a166, a167, a168, a169, a170, a171, a172, a173, a174, a175], []⟩ wa := by
  have x0 := blk_cell K1 0
  have x1 := blk_cell K1 1
  simp only [List.getElem?_toArray, List.getElem?_cons_zero, List.getElem?_cons_succ] at x0 x1
  have hgwc : g < wa.heap.size := blk_lt K1
  have ne0 := World.new_ne wa _ x0
  have ne1 : g ≠ wa.heap.size := by omega
  have ne2 : wa.heap.size ≠ g := fun q => ne1 q.symm
  have HHQ := Aside0.mk hQ
  have HC := Aside0.mk hC
  have HC1 := Aside0.mk hC1
  have HR := Aside0.mk hr
  clear K1 hQ hC hC1 hr
  have hu35 := Try.underlying35
  conv => arg 2; whnf
  go_region_held3 (fun w' => w'.cell? ⟨g, 0, none⟩ = some (.slice A0 n0 c0) ∧ w'.cell? ⟨g, 1, none⟩ = some (.int .i64 p)) (go_keep)
    ((go_at_call 22; refine (tlv_Read.calls k _ _ q r1 r2 r3 r4 r5 r6 _ ?s1 HC1.out HR.out).mono ?_; (case s1 => first | exact Kd.C_below HC.out (below_drew (Below.refl _ _)) | exact Kd.C_below HC.out (below_drew (below_alloc (Below.refl _ _) _))); rintro e w1 ⟨rfl, hb1⟩; have k0 : w1.cell? ⟨g, 0, none⟩ = some (.slice A0 n0 c0) := (by first | exact cell_below hb1 x0 | exact cell_below hb1 (cell_below (below_drew (below_alloc (Below.refl _ _) _)) x0)); have k1 : w1.cell? ⟨g, 1, none⟩ = some (.int .i64 p) := (by first | exact cell_below hb1 x1 | exact cell_below hb1 (cell_below (below_drew (below_alloc (Below.refl _ _) _)) x1)); (try (have bzz := blk_below (blk_drew (blk_new wa (.cells #[.int .i64 0, .int .i64 0, .bool false, .int .i64 0, .int .i64 0] 35))) hb1; have z0 := blk_cell bzz 0; have z1 := blk_cell bzz 1; have z2 := blk_cell bzz 2; have z3 := blk_cell bzz 3; have z4 := blk_cell bzz 4; have f0 := blk_frozen bzz 0; have f1 := blk_frozen bzz 1; have f2 := blk_frozen bzz 2; have f3 := blk_frozen bzz 3; have f4 := blk_frozen bzz 4; have BZ2 := Aside0.mk bzz; clear bzz)); have HB2 := Aside0.mk hb1; clear hb1))
  all_goals
    first
      | exact HHQ.out _ _ (relB_mkA BZ2.out (below_step (below_drew (below_alloc (Below.refl _ _) _)) HB2.out))
      | exact HHQ.out _ _ (relB_mkB (below_step (below_drew (Below.refl _ _)) HB2.out))
noncomputable def reg17 : Code := (Try.f31.body.bind (findReg 17)).getD .skip
set_option maxHeartbeats 8000000 in
set_option maxRecDepth 100000 in
theorem region17 (g h m : Nat) (Av : Option Addr) (cv base : Nat) (p r4 : Int) (xs : List Value) (A3 : Option Addr) (n3 c3 : Nat) (dd : Int) (r1 r2 : Int) (r3 : Bool) (r5 : Int) (a1 a2 a3 a4 a6 a7 a8 a9 a10 a11 a12 a13 a14 a15 a16 a17 a18 a19 a20 a21 a22 a23 a24 a25 a26 a27 a28 a29 a30 a31 a32 a33 a34 a35 a36 a37 a38 a39 a40 a41 a42 a43 a44 a45 a46 a47 a48 a49 a50 a51 a52 a53 a54 a55 a56 a57 a58 a59 a60 a61 a62 a63 a64 a65 a66 a67 a68 a69 a70 a71 a72 a73 a74 a75 a76 a77 a78 a79 a80 a81 a82 a83 a84 a85 a86 a87 a88 a89 a90 a91 a92 a93 a94 a95 a96 a97 a98 a99 a100 a101 a102 a103 a104 a105 a106 a107 a108 a109 a110 a111 a112 a113 a114 a115 a116 a117 a118 a119 a120 a121 a122 a123 a124 a125 a126 a127 a128 a129 a130 a131 a132 a133 a134 a135 a136 a137 a138 a139 a140 a141 a142 a143 a144 a145 a146 a147 a148 a149 a150 a151 a152 a153 a154 a155 a156 a157 a158 a159 a160 a161 a162 a163 a164 a165 a166 a167 a168 a169 a170 a171 a172 a173 a174 a175 : Value) (wh : World) (K : Act → World → Prop) (R : Ending → World → Prop)
    (K1 : wh.heap[g]? = some (.cells #[.slice A3 n3 c3, .int .i64 p, .slice Av m cv, .int .i64 dd] 55 (0, 0)))
    (BH : wh.heap[h]? = some (.cells #[.int .i64 r1, .int .i64 r2, .bool r3, .int .i64 r4, .int .i64 r5] 35 (0, 0)))
    (K5 : wh.ownsRow base 3 1 (.slice Av m cv) m xs) (hm32 : m < 32) (hzw : base ≤ wh.heap.size) (s1 : IntKind.i64.wrap (p + r4) = p + r4)
    (hQ : ∀ ge cap w1, w1.ownsRow base 3 1 (.slice (some ⟨ge, 0, none⟩) (m + 1) cap) (m + 1) (xs ++ [.int .i64 (p + r4)]) → (wh.alloc (.cells #[.int .i64 (p + r4)] 3)).drew.grownBy w1 (Value.slice Av m cv).ownBlock →
      K ⟨#[.pointer (some ⟨g, 0, none⟩), a1, a2, a3, a4, .pointer (some ⟨h, 0, none⟩), a6, a7, a8, a9, a10, a11, a12, a13, a14, a15, a16, a17, a18, a19, a20, a21, a22, a23, a24, a25, a26, a27, a28, a29, a30, a31, a32, a33, a34, a35, a36, a37, a38, a39, a40, a41, a42, a43, a44, a45, a46, a47, a48, a49, a50, a51, a52, a53, a54, a55, a56, a57, a58, a59, a60, a61, a62, a63, a64, a65, a66, a67, a68, a69, a70, a71, a72, a73, a74, a75, a76, a77, a78, a79, a80, a81, a82, a83, a84, a85, a86, a87, a88, a89, a90, a91, a92, a93, a94, a95, a96, a97, a98, a99, a100, a101, a102, a103, a104, a105, a106, a107, .pointer (some ⟨g, 0, none⟩), .pointer (some ⟨g, 0, none⟩), .pointer (some ⟨g, 0, none⟩), .pointer (some ⟨g, 2, none⟩), .slice Av m cv, .pointer (some ⟨g, 0, none⟩), .pointer (some ⟨g, 0, none⟩), .pointer (some ⟨g, 1, none⟩), .int .i64 p, .pointer (some ⟨h, 3, none⟩), .int .i64 r4, .int .i64 (p + r4), .slice (some ⟨wh.heap.size, 0, none⟩) 1 1, .slice (some ⟨ge, 0, none⟩) (m + 1) cap, .pointer (some ⟨g, 0, none⟩), .pointer (some ⟨g, 2, none⟩), a124, a125, a126, a127, a128, a129, a130, a131, a132, a133, a134, a135, a136, a137, a138, a139, a140, a141, a142, a143, a144, a145, a146, a147, a148, a149, a150, a151, a152, a153, a154, a155, a156, a157, a158, a159, a160, a161, a162, a163, a164, a165, a166, a167, a168, a169, a170, a171, a172, a173, a174, a175], []⟩ (w1.setCell ⟨g, 2, none⟩ (.slice (some ⟨ge, 0, none⟩) (m + 1) cap))) :
    Code.wp Try.prog reg17 (Exit.then K (bodyPost Try.prog Try.f31 R)) ⟨#[.pointer (some ⟨g, 0, none⟩), a1, a2, a3, a4, .pointer (some ⟨h, 0, none⟩), a6, a7, a8, a9, a10, a11, a12, a13, a14, a15, a16, a17, a18, a19, a20, a21, a22, a23, a24, a25, a26, a27, a28, a29, a30, a31, a32, a33, a34, a35, a36, a37, a38, a39, a40, a41, a42, a43, a44, a45, a46, a47, a48, a49, a50, a51, a52, a53, a54, a55, a56, a57, a58, a59, a60, a61, a62, a63, a64, a65, a66, a67, a68, a69, a70, a71, a72, a73, a74, a75, a76, a77, a78, a79, a80, a81, a82, a83, a84, a85, a86, a87, a88, a89, a90, a91, a92, a93, a94, a95, a96, a97, a98, a99, a100, a101, a102, a103, a104, a105, a106, a107, a108, a109, a110, a111, a112, a113, a114, a115, a116, a117, a118, a119, a120, a121, a122, a123, a124, a125, a126, a127, a128, a129, a130, a131, a132, a133, a134, a135, a136, a137, a138, a139, a140, a141, a142, a143, a144, a145, a146, a147, a148, a149, a150, a151, a152, a153, a154, a155, a156, a157, a158, a159, a160, a161, a162, a163, a164, a165, a166, a167, a168, a169, a170, a171, a172, a173, a174, a175], []⟩ wh := by
  have x1 := blk_cell K1 1
  have x2 := blk_cell K1 2
  have w3_ := blk_cell BH 3
  simp only [List.getElem?_toArray, List.getElem?_cons_zero, List.getElem?_cons_succ] at x1 x2 w3_
  have g2 := blk_frozen K1 2
  have HK1 := Aside0.mk K1
  have HK5 := Aside0.mk K5
  have HHQ := Aside0.mk hQ
  have hgh : g < wh.heap.size := blk_lt K1
  have hhh : h < wh.heap.size := blk_lt BH
  have ne6 := World.new_ne wh _ x2
  clear K1 K5 BH hQ
  obtain ⟨i3, hi3, hz3, hs3, hb3⟩ := info_parts info3
  have I3 := Aside0.mk hi3
  have Z3 := Aside0.mk hz3
  have S3 := Aside0.mk hs3
  have B3 := Aside0.mk hb3
  clear hi3 hz3 hs3 hb3
  conv => arg 2; whnf
  go_region_law (((refine step_append_lies _ rfl (.tmp 112) (.tmp 120) 53 rfl base 3 i3 (.int .i64 0) 1 8 Try.underlying53 I3.out Z3.out S3.out B3.out rfl (by decide) (.slice Av m cv) m xs (by simp [Act.eval, Act.put]) (row_moved HK5.out (fun i hi => Below.heap_alloc wh _ i (HK5.out.lt i hi).2)) ⟨wh.heap.size, 0, none⟩ 1 1 [.int .i64 (p + r4)] (by simp [Act.eval, Act.put]) rfl (World.news_of_block (blk_new wh (.cells #[.int .i64 (p + r4)] 3))) (by intro u hu; simp at hu; subst hu; rfl) (by decide) (by unfold maxLen; omega) (by omega) (by simp; omega) _ rfl ?_); intro ge cap w1 hown hgrow hat hlt1; have K6 := (hgrow.block g (by simp; omega) (fun q => row_ne HK5.out HK1.out (by decide) q.symm)).trans (blk_alloc HK1.out (.cells #[.int .i64 (p + r4)] 3)); have xx2 := blk_cell K6 2; have gg2 := blk_frozen K6 2; simp only [List.getElem?_toArray, List.getElem?_cons_zero, List.getElem?_cons_succ] at xx2; have HOWN := Aside0.mk hown; have HGROW := Aside0.mk hgrow; clear hown hgrow hat K6))
  all_goals exact HHQ.out ge cap w1 HOWN.out HGROW.out
set_option maxHeartbeats 40000000 in
set_option maxRecDepth 100000 in
theorem next_all (k g : Nat) (l : List Int) (p : Int) (S : List Int) (d : Int) (w0 w : World) (hI : IsW w0 w g l p S d) (hB : Below w0.heap.size w0 w) (er p2 : Int) (S2 : List Int) (d2 : Int) (h : well_walker_next.f k l p S d = some (er, p2, S2, d2)) : Calls Try.prog 31 #[.pointer (some ⟨g, 0, none⟩)] w (NextPost w0 g l p2 S2 d2 er) := by
  have HI := Aside0.mk hI
  have HB := Aside0.mk hB
  have HF := Aside0.mk h
  clear h
  have hlt := isW_lt hI
  have hz := hB.size
  obtain ⟨A0, c0, Av, cv, h1, h2, h3, h4, h5⟩ := hI
  have y0 := blk_cell h1 0
  have y1 := blk_cell h1 1
  have y2 := blk_cell h1 2
  have y3 := blk_cell h1 3
  simp only [List.getElem?_toArray, List.getElem?_cons_zero, List.getElem?_cons_succ] at y0 y1 y2 y3
  obtain ⟨en, hen⟩ : ∃ en, en = wtop l S := ⟨_, rfl⟩
  have Hen := Aside0.mk hen
  have H1 := Aside0.mk h1
  have H5 := Aside0.mk h5
  have H3 := Aside0.mk h3
  clear hen h1 h3 h5 hB
  go_enter Try.func31, Try.ntmps31
  go_upto_if 17 with (fail)
  go_cut [4] (fun s4 wx => RelA w en s4 wx)
  case first =>
    cases S with
    | nil =>
      have en' := Hen.out
      unfold wtop at en'
      obtain rfl := en'
      simp only [List.length_nil] at y2
      go_wp2
      go_meet
      exact relA_mk0 w _
    | cons x S =>
      have en' := Hen.out
      unfold wtop at en'
      obtain rfl := en'
      obtain ⟨b, rfl, _, hcv, hcm, hb, y4⟩ := row_last H5.out
      have hblt := (H5.out.lt b rfl).2
      obtain ⟨n, hn⟩ : ∃ n, n = S.length := ⟨_, rfl⟩
      simp only [List.length_cons] at y2 hcv
      rw [← hn] at y2 y4 hcv
      unfold maxLen at hcm
      have Hn := Aside0.mk hn
      clear hn hb
      have e1 : IntKind.i64.wrap (n : Int) = (n : Int) := by rw [IntKind.wrap_i64]; omega
      have e3 : (0 : Int) ≤ (n : Int) := by omega
      have e4 : (n : Int) < (n : Int) + 1 := by omega
      have e5 : ((n : Nat) : Int).toNat = n := by omega
      go_wp2
      go_quiet (fail)
      go_wp2
      go_meet
      exact relA_mk w _ _
  case rest =>
    rename World => wa
    unfold RelA at hcut
    obtain ⟨rfl, bz, hb1⟩ := hcut
    unfold hz35 at bz
    have HB1 := Aside0.mk hb1
    have BZ := Aside0.mk bz
    have h1' := hb1.block g hlt
    have hgwc : g < wa.heap.size := Nat.lt_of_lt_of_le hlt hb1.size
    have h1b := h1'.trans H1.out
    have x0 := blk_cell h1b 0
    have x1 := blk_cell h1b 1
    have x2 := blk_cell h1b 2
    have x3 := blk_cell h1b 3
    simp only [List.getElem?_toArray, List.getElem?_cons_zero, List.getElem?_cons_succ] at x0 x1 x2 x3
    have ne0 := World.new_ne wa _ x0
    have ne1 : g ≠ wa.heap.size := by have := hb1.size; omega
    have ne2 : wa.heap.size ≠ g := fun q => ne1 q.symm
    have H1b := Aside0.mk h1b
    clear h1b h1' hb1 bz y0 y1 y2 y3
    obtain ⟨m, hm⟩ : ∃ m, m = S.length := ⟨_, rfl⟩
    rw [← hm] at x2
    have Hm := Aside0.mk hm
    clear hm
    have HF' := HF.out
    unfold well_walker_next.f at HF'
    by_cases h32 : 32 ≤ S.length
    · rw [if_pos h32] at HF'
      simp only [Option.some.injEq, Prod.mk.injEq] at HF'
      obtain ⟨rfl, rfl, rfl, rfl⟩ := HF'
      rw [← Hm.out] at h32
      have e1 : decide (32 ≤ (m : Int)) = true := by simp; omega
      have z0 := blk_cell BZ.out 0
      have z1 := blk_cell BZ.out 1
      have z2 := blk_cell BZ.out 2
      have z3 := blk_cell BZ.out 3
      have z4 := blk_cell BZ.out 4
      have f0 := blk_frozen BZ.out 0
      have f1 := blk_frozen BZ.out 1
      have f2 := blk_frozen BZ.out 2
      have f3 := blk_frozen BZ.out 3
      have f4 := blk_frozen BZ.out 4
      have hu35 := Try.underlying35
      go_wp2
      refine bodyPost_ret (results_ct rfl _ _ w.heap.size 35 hz35 (0, 0) _ rfl (read_put _ _ _ _ _ _ _ _ _ _ _ _ _ BZ.out) Try.underlying35 rfl (by kernel_rfl)) rfl ?_
      exact next_post HI.out HB.out ((((HB1.out.setCell (Nat.le_refl _) _).setCell (Nat.le_refl _) _).setCell (Nat.le_refl _) _).setCell (Nat.le_refl _) _ |>.setCell (Nat.le_refl _) _)
    rw [if_neg h32] at HF'
    rw [← Hm.out] at h32
    have e1 : decide (32 ≤ (m : Int)) = false := by simp; omega
    rw [← Hen.out] at HF'
    by_cases hpre : ¬ (0 ≤ p ∧ p ≤ en ∧ en ≤ (l.length : Int) ∧ l.length ≤ 1000000000000)
    · rw [if_neg hpre] at HF'; cases HF'
    replace hpre := Decidable.of_not_not hpre
    rw [if_pos hpre] at HF'
    obtain ⟨hp, hx, hxl, hl⟩ := hpre
    obtain ⟨⟨r1, r2, r3, r4, r5, r6⟩, hr, HF'⟩ := Option.bind_eq_some_iff.mp HF'
    dsimp only at HF'
    obtain ⟨i5, hi5, _, hsz5, _⟩ := info_parts info5
    obtain ⟨A1, hcut, hA1, hC1⟩ := print_mid_of (P := Try.prog) (Value.int .u8) 0 22 5 .i64 .i64 Try.underlying22 hi5 hsz5 A0 c0 l p en hp hx hxl h4
    have HC := Aside0.mk (Kd.C_of_reads (h1 := fun _ => rfl) (hA1 _ (Kd.reads_of_C H3.out)))
    have HC1 := Aside0.mk hC1
    clear hA1 hC1 hi5 hsz5
    obtain ⟨q, hq⟩ : ∃ q, q = (l.take en.toNat).drop p.toNat := ⟨_, rfl⟩
    rw [← hq] at hcut HC HC1 hr
    have Hq := Aside0.mk hq
    have HR := Aside0.mk hr
    have HF2 := Aside0.mk HF'
    clear hq hr HF' HF
    go_upto_region 6 with (fail)
    have HC3 := Aside0.mk (Kd.C_below HC.out (below_step HB.out HB1.out))
    refine region6 k g A0 l.length c0 p en d Av S.length cv A1 _ q r1 r2 r3 r4 r5 r6 _ _ _ _ _ _ _ _ _ _ _ _ _ _ _ _ _ _ _ _ _ _ _ _ _ _ _ _ _ _ _ _ _ _ _ _ _ _ _ _ _ _ _ _ _ _ _ _ _ _ _ _ _ _ _ _ _ _ _ _ _ _ _ _ _ _ _ _ _ _ _ _ _ _ _ _ _ _ _ _ _ _ _ _ _ _ _ _ _ _ _ _ _ _ _ _ _ _ _ _ _ _ _ _ _ _ _ _ _ _ _ _ _ _ _ _ _ _ _ _ _ _ _ _ _ _ _ _ _ _ _ _ _ _ _ _ _ _ _ _ _ _ _ _ _ _ _ _ _ _ _ _ _ _ _ _ _ _ _ _ _ _ _ _ _ _ _ _ _ _ _ _ _ _ _ _ _ H1b.out hcut HC3.out HC1.out HR.out ?_
    clear hcut HC3 x0 x1 x2 x3 ne0 ne1 ne2
    intro h wc hcut
    unfold RelB at hcut
    obtain ⟨h', hv, _, hh, bh, hb2⟩ := hcut
    obtain rfl : h = h' := by simpa using hv
    clear hv
    have H1c := Aside0.mk ((hb2.block g hgwc).trans H1b.out)
    have hgwc : g < wc.heap.size := Nat.lt_of_lt_of_le hgwc hb2.size
    have BZ2 := Aside0.mk ((hb2.block w.heap.size (blk_lt BZ.out)).trans BZ.out)
    have BH := Aside0.mk bh
    have HB2 := Aside0.mk (below_step HB1.out hb2)
    have ne3 : h ≠ g := by omega
    have ne4 : h ≠ w.heap.size := by have := blk_lt BZ.out; omega
    have ne5 : g ≠ w.heap.size := by omega
    clear bh hb2
    have hu35 := Try.underlying35
    have x0 := blk_cell H1c.out 0
    have x1 := blk_cell H1c.out 1
    have x2 := blk_cell H1c.out 2
    have x3 := blk_cell H1c.out 3
    simp only [List.getElem?_toArray, List.getElem?_cons_zero, List.getElem?_cons_succ] at x0 x1 x2 x3
    rw [← Hm.out] at x2
    have w0_ := blk_cell BH.out 0
    have w1_ := blk_cell BH.out 1
    have w2_ := blk_cell BH.out 2
    have w3_ := blk_cell BH.out 3
    have w4_ := blk_cell BH.out 4
    have z0 := blk_cell BZ2.out 0
    have z1 := blk_cell BZ2.out 1
    have z2 := blk_cell BZ2.out 2
    have z3 := blk_cell BZ2.out 3
    have z4 := blk_cell BZ2.out 4
    have f0 := blk_frozen BZ2.out 0
    have f1 := blk_frozen BZ2.out 1
    have f2 := blk_frozen BZ2.out 2
    have f3 := blk_frozen BZ2.out 3
    have f4 := blk_frozen BZ2.out 4
    simp only [List.getElem?_toArray, List.getElem?_cons_zero, List.getElem?_cons_succ] at w0_ w1_ w2_ w3_ w4_ z0 z1 z2 z3 z4
    by_cases c6 : ¬ r6 = 0
    · have F := HF2.out
      rw [if_neg c6] at F
      simp only [Option.some.injEq, Prod.mk.injEq] at F
      obtain ⟨rfl, rfl, rfl, rfl⟩ := F
      have n1 : ((r6 : Int) != 0) = true := bne_iff_ne.mpr c6
      have n2 : ((r6 : Int) == 0) = false := beq_eq_false_iff_ne.mpr c6
      clear c6
      go_wp2
      refine bodyPost_ret (results_ct rfl _ _ w.heap.size 35 hz35 (0, 0) _ rfl (read_put _ _ _ _ _ _ _ _ _ _ _ _ _ BZ2.out) Try.underlying35 rfl (by kernel_rfl)) rfl ?_
      exact next_post HI.out HB.out (below_set5 HB2.out (Nat.le_refl _))
    obtain rfl : r6 = 0 := Decidable.of_not_not c6
    have F := HF2.out
    rw [if_pos rfl] at F
    by_cases ct : r1 = 0 ∧ r2 = 0
    · rw [if_pos ct] at F
      simp only [Option.some.injEq, Prod.mk.injEq] at F
      obtain ⟨rfl, rfl, rfl, rfl⟩ := F
      obtain ⟨rfl, rfl⟩ := ct
      go_wp2
      refine bodyPost_ret (results_ct rfl _ _ w.heap.size 35 hz35 (0, 0) _ rfl (read_put _ _ _ _ _ _ _ _ _ _ _ _ _ BZ2.out) Try.underlying35 rfl (by kernel_rfl)) rfl ?_
      exact next_post HI.out HB.out (below_set5 HB2.out (Nat.le_refl _))
    rw [if_neg ct] at F
    obtain ⟨ok, hok, F⟩ := Option.bind_eq_some_iff.mp F
    have F2 := Aside0.mk F
    have HOK := Aside0.mk hok
    clear F hok HF2
    go_upto_region 9 with (fail)
    go_cut [56] (fun s56 wx => s56 = .bool false ∧ wx = wc)
    case first =>
      by_cases q1 : r1 = 0
      · have q2 : ((r2 : Int) == 0) = false := beq_eq_false_iff_ne.mpr (fun q => ct ⟨q1, q⟩)
        subst q1
        clear ct
        go_wp2_with fail
        go_meet
        exact ⟨rfl, rfl⟩
      · have q2 : ((r1 : Int) == 0) = false := beq_eq_false_iff_ne.mpr q1
        clear ct q1
        go_wp2_with fail
        go_meet
        exact ⟨rfl, rfl⟩
    case rest =>
    rename World => wd
    obtain ⟨rfl, rfl⟩ := hcut
    go_upto_region 11 with (fail)
    go_upto_if 66 with ((go_at_call 33; refine (well_right.calls k r1 r2 r3 r4 r5 ok _ HOK.out).mono ?_; rintro e we ⟨rfl, hb3⟩; have HB3 := Aside0.mk hb3; clear hb3))
    clear x0 x1 x2 x3 w0_ w1_ w2_ w3_ w4_ z0 z1 z2 z3 z4 f0 f1 f2 f3 f4
    have hgwe : g < we.heap.size := Nat.lt_of_lt_of_le hgwc HB3.out.size
    have H1e := Aside0.mk ((HB3.out.block g hgwc).trans H1c.out)
    have BZ3 := Aside0.mk (blk_below BZ2.out HB3.out)
    have BH3 := Aside0.mk (blk_below BH.out HB3.out)
    have HB4 := Aside0.mk (below_step HB2.out HB3.out)
    have x0 := blk_cell H1e.out 0
    have x1 := blk_cell H1e.out 1
    have x2 := blk_cell H1e.out 2
    have x3 := blk_cell H1e.out 3
    simp only [List.getElem?_toArray, List.getElem?_cons_zero, List.getElem?_cons_succ] at x0 x1 x2 x3
    rw [← Hm.out] at x2
    have w0_ := blk_cell BH3.out 0
    have w1_ := blk_cell BH3.out 1
    have w2_ := blk_cell BH3.out 2
    have w3_ := blk_cell BH3.out 3
    have w4_ := blk_cell BH3.out 4
    have z0 := blk_cell BZ3.out 0
    have z1 := blk_cell BZ3.out 1
    have z2 := blk_cell BZ3.out 2
    have z3 := blk_cell BZ3.out 3
    have z4 := blk_cell BZ3.out 4
    have f0 := blk_frozen BZ3.out 0
    have f1 := blk_frozen BZ3.out 1
    have f2 := blk_frozen BZ3.out 2
    have f3 := blk_frozen BZ3.out 3
    have f4 := blk_frozen BZ3.out 4
    simp only [List.getElem?_toArray, List.getElem?_cons_zero, List.getElem?_cons_succ] at w0_ w1_ w2_ w3_ w4_ z0 z1 z2 z3 z4
    clear HB3 HOK H1c BZ2 BH HB2
    have F := F2.out
    cases ok with
    | false =>
      rw [if_neg (show ¬ (false = true) by decide)] at F
      simp only [Option.some.injEq, Prod.mk.injEq] at F
      obtain ⟨rfl, rfl, rfl, rfl⟩ := F
      go_wp2
      refine bodyPost_ret (results_ct rfl _ _ w.heap.size 35 hz35 (0, 0) _ rfl (read_put _ _ _ _ _ _ _ _ _ _ _ _ _ BZ3.out) Try.underlying35 rfl (by kernel_rfl)) rfl ?_
      exact next_post HI.out HB.out (below_set5 HB4.out (Nat.le_refl _))
    | true =>
    rw [if_pos rfl] at F
    by_cases hpre2 : ¬ (0 ≤ r5 ∧ r5 ≤ 4294967296 ∧ 0 ≤ r4 ∧ r4 ≤ 4294967296)
    · rw [if_neg hpre2] at F; cases F
    replace hpre2 := Decidable.of_not_not hpre2
    rw [if_pos hpre2] at F
    obtain ⟨h50, h51, h40, h41⟩ := hpre2
    clear F2
    by_cases hs : en - p - r5 < r4
    · rw [if_pos hs] at F
      simp only [Option.some.injEq, Prod.mk.injEq] at F
      obtain ⟨rfl, rfl, rfl, rfl⟩ := F
      have s1 : IntKind.i64.wrap (en - p) = en - p := by rw [IntKind.wrap_i64]; omega
      have s2 : IntKind.i64.wrap (en - p - r5) = en - p - r5 := by rw [IntKind.wrap_i64]; omega
      have s3 : decide (en - p - r5 < r4) = true := by simpa using hs
      go_wp2_with fail
      go_quiet (fail)
      go_wp2
      refine bodyPost_ret (results_ct rfl _ _ w.heap.size 35 hz35 (0, 0) _ rfl (read_put _ _ _ _ _ _ _ _ _ _ _ _ _ (blk_drewN BZ3.out _)) Try.underlying35 rfl (by kernel_rfl)) rfl ?_
      exact next_post HI.out HB.out (below_set5 (pw_below_drewN HB4.out _) (Nat.le_refl _))
    rw [if_neg hs] at F
    have F2 := Aside0.mk F
    clear F
    have s1 : IntKind.i64.wrap (en - p) = en - p := by rw [IntKind.wrap_i64]; omega
    have s2 : IntKind.i64.wrap (en - p - r5) = en - p - r5 := by rw [IntKind.wrap_i64]; omega
    have s3 : decide (en - p - r5 < r4) = false := by simpa using hs
    go_wp2_with fail
    go_quiet (fail)
    clear s1 s2 s3 x0 x1 x2 x3 w0_ w1_ w2_ w3_ w4_ z0 z1 z2 z3 z4 f0 f1 f2 f3 f4
    go_upto_region 15 with (fail)
    generalize hq3 : we.drewN nq = wf
    have Hg := Aside0.mk (show wf.heap[g]? = _ from hq3 ▸ blk_drewN H1e.out nq)
    have BH4 := Aside0.mk (show wf.heap[h]? = _ from hq3 ▸ blk_drewN BH3.out nq)
    have BZ4 := Aside0.mk (show wf.heap[w.heap.size]? = _ from hq3 ▸ blk_drewN BZ3.out nq)
    have HB5 := Aside0.mk (show Below w.heap.size w wf from hq3 ▸ pw_below_drewN HB4.out nq)
    clear H1e BH3 BZ3 HB4 hgwe hgwc hq3
    have x0 := blk_cell Hg.out 0
    have x1 := blk_cell Hg.out 1
    have x2 := blk_cell Hg.out 2
    have x3 := blk_cell Hg.out 3
    simp only [List.getElem?_toArray, List.getElem?_cons_zero, List.getElem?_cons_succ] at x0 x1 x2 x3
    rw [← Hm.out] at x2
    have g1 := blk_frozen Hg.out 1
    have w4_ := blk_cell BH4.out 4
    simp only [List.getElem?_toArray, List.getElem?_cons_zero, List.getElem?_cons_succ] at w4_
    have s1 : IntKind.i64.wrap (p + r5) = p + r5 := by rw [IntKind.wrap_i64]; omega
    go_region
    go_upto_region 16 with (fail)
    clear x0 x1 x2 x3 g1 w4_ s1
    generalize hq4 : (wf.setCell ⟨g, 1, none⟩ (Value.int IntKind.i64 (p + r5))).drew = wg
    have BH5 := Aside0.mk (show wg.heap[h]? = _ from hq4 ▸ blk_drew (blk_far BH4.out ne3 _))
    have BZ5 := Aside0.mk (show wg.heap[w.heap.size]? = _ from hq4 ▸ blk_drew (blk_far BZ4.out (Ne.symm ne5) _))
    have HW := Aside0.mk (show IsW w0 wg g l (p + r5) S d from hq4 ▸ isW_drew (isW_set1 (p := p) (p + r5) ⟨A0, c0, Av, cv, Hg.out, h2, H3.out, h4, row_moved H5.out (fun i hi => HB5.out.block i (H5.out.lt i hi).2)⟩))
    have HB6 := Aside0.mk (show Below w0.heap.size w0 wg from hq4 ▸ (below_set (below_step HB.out HB5.out) h2).drew)
    clear Hg BH4 BZ4 HB5 hq4
    obtain ⟨A2, c2, Av2, cv2, k1, _, _, _, _⟩ := HW.out
    have x2 := blk_cell k1 2
    have x3 := blk_cell k1 3
    simp only [List.getElem?_toArray, List.getElem?_cons_zero, List.getElem?_cons_succ] at x2 x3
    rw [← Hm.out] at x2
    have g3 := blk_frozen k1 3
    clear k1
    have s1 : IntKind.i64.wrap ((m : Int) + 1) = (m : Int) + 1 := by rw [IntKind.wrap_i64]; omega
    go_region
    go_upto_region 17 with (fail)
    clear x2 x3 g3 s1
    generalize hdd : (if d < (m : Int) + 1 then (m : Int) + 1 else d) = dd
    generalize hq5 : (wg.setCell ⟨g, 3, none⟩ (Value.int IntKind.i64 dd)).drew = wh
    have BH6 := Aside0.mk (show wh.heap[h]? = _ from hq5 ▸ blk_drew (blk_far BH5.out ne3 _))
    have BZ6 := Aside0.mk (show wh.heap[w.heap.size]? = _ from hq5 ▸ blk_drew (blk_far BZ5.out (Ne.symm ne5) _))
    have HW2 := Aside0.mk (show IsW w0 wh g l (p + r5) S dd from hq5 ▸ isW_drew (isW_set3 _ HW.out))
    have HB7 := Aside0.mk (show Below w0.heap.size w0 wh from hq5 ▸ (below_set HB6.out h2).drew)
    clear BH5 BZ5 HW HB6 hq5
    have Hdd := Aside0.mk hdd
    clear hdd
    obtain ⟨A3, c3, Av3, cv3, k1, hgz, k3, k4, k5⟩ := HW2.out
    have KC := Aside0.mk (And.intro k3 k4)
    clear k3 k4
    rw [← Hm.out] at k1 k5
    have x1 := blk_cell k1 1
    have x2 := blk_cell k1 2
    have w3_ := blk_cell BH6.out 3
    simp only [List.getElem?_toArray, List.getElem?_cons_zero, List.getElem?_cons_succ] at x1 x2 w3_
    have g2 := blk_frozen k1 2
    have s1 : IntKind.i64.wrap (p + r5 + r4) = p + r5 + r4 := by rw [IntKind.wrap_i64]; omega
    have K1 := Aside0.mk k1
    have K5 := Aside0.mk k5
    clear k1 k5
    have hgh : g < wh.heap.size := blk_lt K1.out
    have hhh : h < wh.heap.size := blk_lt BH6.out
    have ne6 := World.new_ne wh _ x2
    obtain ⟨i3, hi3, hz3, hs3, hb3⟩ := info_parts info3
    have I3 := Aside0.mk hi3
    have Z3 := Aside0.mk hz3
    have S3 := Aside0.mk hs3
    have B3 := Aside0.mk hb3
    clear hi3 hz3 hs3 hb3
    have hm32 : m < 32 := by omega
    have hzw : w0.heap.size ≤ wh.heap.size := HB7.out.size
    refine region17 g h m Av3 cv3 w0.heap.size (p + r5) r4 (S.reverse.map (Value.int .i64)) A3 l.length c3 dd r1 r2 r3 r5 _ _ _ _ _ _ _ _ _ _ _ _ _ _ _ _ _ _ _ _ _ _ _ _ _ _ _ _ _ _ _ _ _ _ _ _ _ _ _ _ _ _ _ _ _ _ _ _ _ _ _ _ _ _ _ _ _ _ _ _ _ _ _ _ _ _ _ _ _ _ _ _ _ _ _ _ _ _ _ _ _ _ _ _ _ _ _ _ _ _ _ _ _ _ _ _ _ _ _ _ _ _ _ _ _ _ _ _ _ _ _ _ _ _ _ _ _ _ _ _ _ _ _ _ _ _ _ _ _ _ _ _ _ _ _ _ _ _ _ _ _ _ _ _ _ _ _ _ _ _ _ _ _ _ _ _ _ _ _ _ _ _ _ _ _ _ _ _ _ _ _ _ _ _ wh _ _ K1.out BH6.out K5.out hm32 hzw s1 ?_
    intro ge cap w1 hown hgrow
    have hc := relC_mk K1.out KC.out.1 KC.out.2 hgz K5.out BH6.out BZ6.out HB7.out ne3 (Ne.symm ne5) hgrow hown Hm.out
    generalize w1.setCell ⟨g, 2, none⟩ (.slice (some ⟨ge, 0, none⟩) (m + 1) cap) = wj at hc ⊢
    clear hown hgrow x1 x2 w3_ g2 s1 ne6 K1 K5 BH6 BZ6 HW2 HB7 hgh hhh hzw I3 Z3 S3 B3 HI
    have RC := Aside0.mk hc
    have F := F2.out
    simp only [Option.some.injEq, Prod.mk.injEq] at F
    obtain ⟨rfl, hp2, hs2, hd2⟩ := F
    have HP2 := Aside0.mk hp2
    have HS2 := Aside0.mk hs2
    have HDD : Aside0 (dd = d2) := Aside0.mk (by rw [← hd2, ← Hdd.out, ← Hm.out])
    clear hc hp2 hs2 hd2 F2 Hdd
    have w2_ := blk_cell RC.out.2.1 2
    simp only [List.getElem?_toArray, List.getElem?_cons_zero, List.getElem?_cons_succ] at w2_
    go_upto_if 126 with (fail)
    go_cut [4] (fun s4 wx => s4 = .int .i64 en ∧ RelC w0 w g h l p2 ((p + r5 + r4) :: S) dd r1 r2 r3 r4 r5 wx)
    case first =>
      cases r3 with
      | true =>
        have hp2 := HP2.out
        rw [if_pos rfl] at hp2
        subst hp2
        go_wp2_with fail
        go_meet
        exact ⟨rfl, RC.out⟩
      | false =>
        have hp2 := HP2.out
        rw [if_neg (show ¬ (false = true) by decide)] at hp2
        subst hp2
        obtain ⟨A5, c5, Av5, cv5, k1, k2, k3, k4, k5⟩ := RC.out.1
        have K1 := Aside0.mk k1
        clear k2 k3 k4 k5
        have x1 := blk_cell k1 1
        have g1 := blk_frozen k1 1
        have w3_ := blk_cell RC.out.2.1 3
        simp only [List.getElem?_toArray, List.getElem?_cons_zero, List.getElem?_cons_succ] at x1 w3_
        clear k1
        have s1 : IntKind.i64.wrap (p + r5 + r4) = p + r5 + r4 := by rw [IntKind.wrap_i64]; omega
        go_wp2_with fail
        go_region
        go_wp2_with fail
        go_meet
        exact ⟨rfl, relC_set1 RC.out ne3 (Ne.symm ne5)⟩
    case rest =>
    rename World => wl
    clear w2_ RC
    obtain ⟨rfl, hc⟩ := hcut
    have RC := Aside0.mk hc
    clear hc
    have HS3 : Aside0 (wpop p2 ((p + r5 + r4) :: S) = S2) := Aside0.mk (by rw [← HS2.out, HP2.out])
    clear HS2 HP2 h50 h51 h40 h41 hs hx hp hxl
    go_wp2_with fail
    go_loopg [160] ((p + r5 + r4) :: S).length (fun kq v160 w' => ∃ S1 : List Int, Aside0 (kq = S1.length ∧ wpop p2 S1 = S2) ∧ Aside0 (RelC w0 w g h l p2 S1 dd r1 r2 r3 r4 r5 w'))
    case atStart => exact ⟨_, ⟨⟨rfl, HS3.out⟩⟩, RC⟩
    case round =>
      obtain ⟨S1, HK, HR1⟩ := hrel
      clear RC HS3
      have hu35 := Try.underlying35
      cases S1 with
      | nil =>
        have hS2 := HK.out.2
        obtain ⟨A6, c6, Av6, cv6, k1, _, _, _, _⟩ := HR1.out.1
        have K1 := Aside0.mk k1
        have x1 := blk_cell k1 1
        have x2 := blk_cell k1 2
        simp only [List.getElem?_toArray, List.getElem?_cons_zero, List.getElem?_cons_succ, List.length_nil] at x1 x2
        clear k1
        have w0_ := blk_cell HR1.out.2.1 0
        have w1_ := blk_cell HR1.out.2.1 1
        have w2_ := blk_cell HR1.out.2.1 2
        have w3_ := blk_cell HR1.out.2.1 3
        have w4_ := blk_cell HR1.out.2.1 4
        have z0 := blk_cell HR1.out.2.2.1 0
        have z1 := blk_cell HR1.out.2.2.1 1
        have z2 := blk_cell HR1.out.2.2.1 2
        have z3 := blk_cell HR1.out.2.2.1 3
        have z4 := blk_cell HR1.out.2.2.1 4
        have f0 := blk_frozen HR1.out.2.2.1 0
        have f1 := blk_frozen HR1.out.2.2.1 1
        have f2 := blk_frozen HR1.out.2.2.1 2
        have f3 := blk_frozen HR1.out.2.2.1 3
        have f4 := blk_frozen HR1.out.2.2.1 4
        simp only [List.getElem?_toArray, List.getElem?_cons_zero, List.getElem?_cons_succ] at w0_ w1_ w2_ w3_ w4_ z0 z1 z2 z3 z4
        have HS4 : Aside0 ([] = S2) := Aside0.mk hS2
        clear hS2
        go_wp2_with fail
        go_quiet (fail)
        go_wp2
        refine bodyPost_ret (results_ct rfl _ _ w.heap.size 35 (hd35 r1 r2 r3 r4 r5) (0, 0) _ rfl (read_put _ _ _ _ _ _ _ _ _ _ _ _ _ (blk_drewN HR1.out.2.2.1 _)) Try.underlying35 rfl (by kernel_rfl)) rfl ?_
        exact next_okp (HS4.out ▸ HDD.out ▸ HR1.out) ne5 hz _
      | cons x S1 =>
        have hK1 := HK.out.1
        have hS2 := HK.out.2
        rw [wpop] at hS2
        obtain ⟨A6, c6, Av6, cv6, k1, _, _, _, k5⟩ := HR1.out.1
        obtain ⟨b, rfl, _, hcv, hcm, hb, y4⟩ := row_last k5
        have hblt := (k5.lt b rfl).2
        obtain ⟨n, hn⟩ : ∃ n, n = S1.length := ⟨_, rfl⟩
        simp only [List.length_cons] at k1 hcv
        rw [← hn] at k1 y4 hcv
        have K1 := Aside0.mk k1
        have x1 := blk_cell k1 1
        have x2 := blk_cell k1 2
        have g2 := blk_frozen k1 2
        simp only [List.getElem?_toArray, List.getElem?_cons_zero, List.getElem?_cons_succ] at x1 x2
        unfold maxLen at hcm
        have Hn := Aside0.mk hn
        have HK1 := Aside0.mk hK1
        clear hn hb k1 k5 hK1
        have e1 : IntKind.i64.wrap (n : Int) = (n : Int) := by rw [IntKind.wrap_i64]; omega
        have e3 : (0 : Int) ≤ (n : Int) := by omega
        have e4 : (n : Int) < (n : Int) + 1 := by omega
        have e5 : ((n : Nat) : Int).toNat = n := by omega
        have e7 : (0 : Int) < (n : Int) + 1 := by omega
        have e8 : decide ((0 : Int) < (n : Int) + 1) = true := decide_eq_true e7
        by_cases hpx : p2 = x
        · rw [if_pos hpx] at hS2
          have HS4 := Aside0.mk hS2
          subst hpx
          clear hS2
          go_wp2_with fail
          go_quiet (fail)
          go_wp2_with fail
          generalize hq6 : wr.drewN nq = ws
          have K2 := Aside0.mk (show ws.heap[g]? = _ from hq6 ▸ blk_drewN K1.out nq)
          have HR2 := Aside0.mk (show RelC w0 w g h l p2 (p2 :: S1) dd r1 r2 r3 r4 r5 ws from hq6 ▸ relC_drewN HR1.out nq)
          have x1 := blk_cell K2.out 1
          have x2 := blk_cell K2.out 2
          have g2 := blk_frozen K2.out 2
          simp only [List.getElem?_toArray, List.getElem?_cons_zero, List.getElem?_cons_succ] at x1 x2
          clear hq6 K1 HR1 y4 hblt
          go_region
          go_wp2_with fail
          go_roundg S1.length
          case measure => have := HK1.out; simp only [List.length_cons] at this; omega
          case rel => exact ⟨S1, ⟨⟨rfl, HS4.out⟩⟩, ⟨relC_pop HR2.out ne3 (Ne.symm ne5) K2.out Hn.out⟩⟩
        · rw [if_neg hpx] at hS2
          have HS4 := Aside0.mk hS2
          have e9 : ((p2 : Int) == x) = false := beq_eq_false_iff_ne.mpr hpx
          clear hS2 hpx
          have w0_ := blk_cell HR1.out.2.1 0
          have w1_ := blk_cell HR1.out.2.1 1
          have w2_ := blk_cell HR1.out.2.1 2
          have w3_ := blk_cell HR1.out.2.1 3
          have w4_ := blk_cell HR1.out.2.1 4
          have z0 := blk_cell HR1.out.2.2.1 0
          have z1 := blk_cell HR1.out.2.2.1 1
          have z2 := blk_cell HR1.out.2.2.1 2
          have z3 := blk_cell HR1.out.2.2.1 3
          have z4 := blk_cell HR1.out.2.2.1 4
          have f0 := blk_frozen HR1.out.2.2.1 0
          have f1 := blk_frozen HR1.out.2.2.1 1
          have f2 := blk_frozen HR1.out.2.2.1 2
          have f3 := blk_frozen HR1.out.2.2.1 3
          have f4 := blk_frozen HR1.out.2.2.1 4
          simp only [List.getElem?_toArray, List.getElem?_cons_zero, List.getElem?_cons_succ] at w0_ w1_ w2_ w3_ w4_ z0 z1 z2 z3 z4
          go_wp2_with fail
          go_quiet (fail)
          go_wp2
          refine bodyPost_ret (results_ct rfl _ _ w.heap.size 35 (hd35 r1 r2 r3 r4 r5) (0, 0) _ rfl (read_put _ _ _ _ _ _ _ _ _ _ _ _ _ (blk_drewN HR1.out.2.2.1 _)) Try.underlying35 rfl (by kernel_rfl)) rfl ?_
          exact next_okp (HS4.out ▸ HDD.out ▸ HR1.out) ne5 hz _

end Go.Proofs.Ytogbpdmncnldhaa.Base
