/- Contracts of the reader's small methods. -/
import Derived.Test.YtbgmblpgdaociaaB2
namespace Go.Proofs.Ytbgmblpgdaociaa.Base
open Go.RowKit Go.Proofs.YtbgmblpgdaociaaW.PrintWords Go.Proofs.YtbgmblpgdaociaaW.PrintLast Go.Proofs.YtbgmblpgdaociaaW.PrintMore
set_option linter.unusedVariables false
set_option linter.unusedSimpArgs false
set_option linter.unnecessarySimpa false
/-! ### The reader's state -/
structure Rd where
  i : Int
  g0 : Int
  g1 : Int
  g2 : Int
  g3 : Int
  left : Int
  right : Int
  out : List (Int × Int)
def Rd.g (s : Rd) (k : Int) : Int := if k = 0 then s.g0 else if k = 1 then s.g1 else if k = 2 then s.g2 else s.g3
def Rd.put (s : Rd) (k v : Int) : Rd := if k = 0 then { s with g0 := v } else if k = 1 then { s with g1 := v } else if k = 2 then { s with g2 := v } else { s with g3 := v }
def tokCells (l : List (Int × Int)) : List Value := l.flatMap fun t => [.int .i64 t.1, .int .i64 t.2]
theorem tokCells_length (l : List (Int × Int)) : (tokCells l).length = l.length * 2 := by
  induction l with
  | nil => rfl
  | cons x l ih =>
    have : tokCells (x :: l) = [.int .i64 x.1, .int .i64 x.2] ++ tokCells l := rfl
    rw [this, List.length_append, ih]; simp; omega
theorem tokCells_snoc (l : List (Int × Int)) (x : Int × Int) : tokCells (l ++ [x]) = tokCells l ++ [.int .i64 x.1, .int .i64 x.2] := by simp [tokCells]
/-- What a reader over the bytes l keeps to. -/
structure Good (l : List Int) (s : Rd) : Prop where
  i0 : 0 ≤ s.i
  i1 : s.i ≤ l.length
  o : (s.out.length : Int) ≤ s.i
  n : l.length ≤ 1000000
  b : ∀ x ∈ l, 0 ≤ x ∧ x ≤ 255
  l0 : 0 ≤ s.left ∧ s.left ≤ 3
  r0 : 0 ≤ s.right ∧ s.right ≤ 3
/-- The reader at block R of W: the cells, with v for what has been told. -/
def IsR (w0 W : World) (R : Nat) (l : List Int) (s : Rd) : Prop :=
  ∃ (A : Option Addr) (c : Nat) (v : Value), W.heap[R]? = some (.cells #[.slice A l.length c, .int .i64 s.i, .int .i64 s.g0, .int .i64 s.g1, .int .i64 s.g2, .int .i64 s.g3, .int .i64 s.left, .int .i64 s.right, v] 45 (0, 0)) ∧
    w0.heap.size ≤ R ∧ Kd.C (Kd.int .u8) w0 A l.length l ∧ W.ownsRow w0.heap.size 30 2 v s.out.length (tokCells s.out) ∧ Below w0.heap.size w0 W
theorem own_moved {W W1 : World} {base : Nat} {e : TypeId} {z : Nat} {v : Value} {n : Nat} {xs : List Value} (h : W.ownsRow base e z v n xs) (hk : ∀ i, v.ownBlock = some i → W1.heap[i]? = W.heap[i]?) : W1.ownsRow base e z v n xs := by
  refine ⟨h.1, ?_⟩
  rcases h.2 with h2 | ⟨b, cap, cur, hv, hb, hg, h3⟩
  · exact .inl h2
  · exact .inr ⟨b, cap, cur, hv, hb, by rw [hk b (by rw [hv]; rfl)]; exact hg, h3⟩
theorem isR_below {w0 W W1 : World} {R : Nat} {l : List Int} {s : Rd} (h : IsR w0 W R l s) (hb : Below W.heap.size W W1) : IsR w0 W1 R l s := by
  obtain ⟨A, c, v, h1, h2, h3, h4, h5⟩ := h
  exact ⟨A, c, v, blk_below h1 hb, h2, h3, own_moved h4 (fun i hi => hb.block i (own_lt h4 i hi)), below_step h5 hb⟩
theorem isR_drewN {w0 W : World} {R : Nat} {l : List Int} {s : Rd} (h : IsR w0 W R l s) (n : Nat) : IsR w0 (W.drewN n) R l s := isR_below h (pw_below_drewN (Below.refl _ _) n)
theorem isR_set {w0 W : World} {R : Nat} {l : List Int} {s s' : Rd} {j : Nat} {u : Value} (h : IsR w0 W R l s) (ho : s'.out = s.out)
    (hs : ∀ a v, (#[a, .int .i64 s.i, .int .i64 s.g0, .int .i64 s.g1, .int .i64 s.g2, .int .i64 s.g3, .int .i64 s.left, .int .i64 s.right, v] : Array Value).setIfInBounds j u = #[a, .int .i64 s'.i, .int .i64 s'.g0, .int .i64 s'.g1, .int .i64 s'.g2, .int .i64 s'.g3, .int .i64 s'.left, .int .i64 s'.right, v]) :
    IsR w0 (W.setCell ⟨R, j, none⟩ u) R l s' := by
  obtain ⟨A, c, v, h1, h2, h3, h4, h5⟩ := h
  refine ⟨A, c, v, blk_put h1 j u (hs _ _), h2, h3, ?_, below_set h5 h2⟩
  rw [ho]
  have hne := own_ne h4 h1 (by decide)
  exact own_moved h4 (fun i hi => Below.heap_setCell W ⟨R, j, none⟩ u i (by intro e; subst e; exact hne hi.symm))

theorem info30 : (Try.prog.info? 30).map (fun i => (i.zero, i.size, i.bytes)) = some (some (.agg #[.int .i64 0, .int .i64 0]), 2, 16) := by kernel_rfl

/-! ### next -/
def nextP (l : List Int) (s : Rd) : Int × Int × Rd := if s.i ≥ l.length then (0, 2, s) else (rd l s.i, 0, { s with i := s.i + 1 })
theorem next_good {l : List Int} {s : Rd} (h : Good l s) : Good l (nextP l s).2.2 := by
  unfold nextP
  split
  · exact h
  · obtain ⟨a, b, c, d, e, f, g⟩ := h
    exact ⟨by simp; omega, by simp; omega, by simp; omega, d, e, f, g⟩
theorem next_byte {l : List Int} {s : Rd} (h : Good l s) : 0 ≤ (nextP l s).1 ∧ (nextP l s).1 ≤ 255 := by
  unfold nextP
  split
  · simp
  · rename_i q
    have h1 := h.i0
    have : s.i.toNat < l.length := by omega
    have e : rd l s.i = l[s.i.toNat] := by simp [rd, List.getD_eq_getElem?_getD, List.getElem?_eq_getElem this]
    rw [e]
    exact h.b _ (List.getElem_mem this)

def PostE (w0 : World) (R : Nat) (l : List Int) (er : Int) (s : Rd) (e : Ending) (w' : World) : Prop := e = .returned (.int .i64 er) ∧ IsR w0 w' R l s
def PostN (w0 : World) (R : Nat) (l : List Int) (c er : Int) (s : Rd) (e : Ending) (w' : World) : Prop := e = .returned (.tuple #[.int .i64 c, .int .i64 er]) ∧ IsR w0 w' R l s

set_option maxHeartbeats 4000000 in
set_option maxRecDepth 100000 in
theorem next_calls (w0 w : World) (R : Nat) (l : List Int) (s : Rd) (h : IsR w0 w R l s) (hg : Good l s) :
    Calls Try.prog 16 #[.pointer (some ⟨R, 0, none⟩)] w (PostN w0 R l (nextP l s).1 (nextP l s).2.1 (nextP l s).2.2) := by
  have H := Aside0.mk h
  obtain ⟨A, c, v, h1, h2, h3, h4, h5⟩ := h
  have hC := Kd.C_below h3 h5
  have x0 : w.cell? ⟨R, 0, none⟩ = some (.slice A l.length c) := (blk_cell h1 0).trans rfl
  have x1 : w.cell? ⟨R, 1, none⟩ = some (.int .i64 s.i) := (blk_cell h1 1).trans rfl
  have f1 := blk_frozen h1 1
  obtain ⟨i0, i1, _, n1, hbs, _, _⟩ := hg
  have hu25 := Try.underlying25
  clear h1 h2 h5 h4 h3
  unfold nextP
  by_cases hlt : s.i ≥ l.length
  · rw [if_pos hlt]
    have hd : decide (s.i ≥ (l.length : Int)) = true := decide_eq_true hlt
    have hd2 : decide ((l.length : Int) ≤ s.i) = true := decide_eq_true hlt
    clear hC
    go_enter Try.func16, Try.ntmps16
    go_wp2
    go_quiet (fail)
    go_wp2
    go_ret2
    exact ⟨rfl, isR_drewN H.out _⟩
  · rw [if_neg hlt]
    have HBS := Aside0.mk hbs
    clear hbs
    obtain ⟨i, g0, g1, g2, g3, lf, rt, out⟩ := s
    dsimp only at *
    obtain ⟨m, rfl⟩ := Int.eq_ofNat_of_zero_le i0
    have hd : decide ((m : Int) ≥ (l.length : Int)) = false := decide_eq_false hlt
    have hd2 : decide (l.length ≤ m) = false := decide_eq_false (by omega)
    have p1 : (m : Int) < (l.length : Int) := by omega
    have p2 : m < l.length := by omega
    have p3 : (0 : Int) ≤ (m : Int) := by omega
    clear hC hlt
    go_enter Try.func16, Try.ntmps16
    go_wp2
    go_quiet (fail)
    go_upto_region 3 with (fail)
    go_wp2
    have H2 : IsR w0 ((w.drewN nq).setCell ⟨R, 1, none⟩ (.int .i64 ((m : Int) + 1))) R l ⟨(m : Int) + 1, g0, g1, g2, g3, lf, rt, out⟩ := isR_set (isR_drewN H.out nq) rfl (fun _ _ => rfl)
    have HH := Aside0.mk H2
    clear H2 H x0 x1 f1
    generalize (w.drewN nq).setCell ⟨R, 1, none⟩ (.int .i64 ((m : Int) + 1)) = w2 at HH ⊢
    obtain ⟨A', c', v', h1, h2, h3, h4, h5⟩ := HH.out
    have hC := Kd.C_below h3 h5
    have x0 : w2.cell? ⟨R, 0, none⟩ = some (.slice A' l.length c') := (blk_cell h1 0).trans rfl
    have x1 : w2.cell? ⟨R, 1, none⟩ = some (.int .i64 ((m : Int) + 1)) := (blk_cell h1 1).trans rfl
    obtain ⟨ad, rfl, hc⟩ := (Kd.reads_of_C (d := (0 : Int)) hC).2.2 (by omega)
    have y0 := hc m (by omega)
    have y1 : rd l (m : Int) = l.getD m 0 := by simp [rd]
    have HY := Aside0.mk y1
    have y2 : 0 ≤ l.getD m 0 ∧ l.getD m 0 ≤ 255 := by
      rw [List.getD_eq_getElem?_getD, List.getElem?_eq_getElem p2]
      exact HBS.out _ (List.getElem_mem p2)
    generalize l.getD m 0 = b at y0 HY y2
    obtain ⟨y3, y4⟩ := y2
    clear hc hC y1 h1 h2 h3 h4 h5
    have b1 : IntKind.i64.wrap ((m : Int) + 1 - 1) = (m : Int) := by rw [IntKind.wrap_i64]; omega
    have b2 : IntKind.i64.wrap (m : Int) = (m : Int) := by rw [IntKind.wrap_i64]; omega
    go_quiet (fail)
    go_wp2
    go_ret2
    exact ⟨by rw [HY.out]; rfl, isR_drewN HH.out _⟩

/-! ### side, place -/
def sideR (c : Int) : Bool := decide (c ≥ 128)
def sideN (c : Int) : Int := Go.bits .andNot .i64 c 128
def sideOk (c : Int) : Bool := if sideN c ≥ 33 then decide (sideN c ≤ 126) else false
theorem side_calls (c : Int) (w : World) : Calls Try.prog 24 #[.int .i64 c] w fun e w' => e = .returned (.tuple #[.bool (sideR c), .int .i64 (sideN c), .bool (sideOk c)]) ∧ Drawn0 w w' := by
  refine shift_side.calls c _ _ _ w ?_
  unfold shift_side.f sideOk sideR sideN
  split
  · rfl
  · rfl
theorem wide_calls (c : Int) (w : World) : Calls Try.prog 8 #[.int .i64 c] w fun e w' => e = .returned (.bool (c == 87)) ∧ Drawn0 w w' := csets_Wide.calls c _ w rfl
theorem sideN_bd (c : Int) (h : sideOk c = true) : 33 ≤ sideN c ∧ sideN c ≤ 126 := by
  unfold sideOk at h
  split at h
  · rename_i q
    exact ⟨q, of_decide_eq_true h⟩
  · cases h

theorem cell_g {w0 w : World} {R : Nat} {l : List Int} {s : Rd} (h : IsR w0 w R l s) (k : Nat) (hk : k < 4) : w.cell? ⟨R, 2 + k, none⟩ = some (.int .i64 (s.g k)) ∧ w.frozen? ⟨R, 2 + k, none⟩ = false := by
  obtain ⟨A, c, v, h1, h2, h3, h4, h5⟩ := h
  refine ⟨?_, blk_frozen h1 _⟩
  rw [blk_cell h1]
  unfold Rd.g
  match k, hk with
  | 0, _ => rfl
  | 1, _ => rfl
  | 2, _ => rfl
  | 3, _ => rfl

/-- A token told. -/
def Rd.tell (s : Rd) (set n : Int) : Rd := { s with out := s.out ++ [(set, n)] }
def placeP (l : List Int) (s : Rd) (g c : Int) : Int × Rd :=
  if sideOk c = false then (11, s) else if s.g g = 0 then (12, s) else
  if s.g g = 87 then
    (if (nextP l s).2.1 ≠ 0 then ((nextP l s).2.1, (nextP l s).2.2)
     else if sideOk (nextP l s).1 = false then (11, (nextP l s).2.2)
     else if sideR (nextP l s).1 ≠ sideR c then (11, (nextP l s).2.2)
     else (0, (nextP l s).2.2.tell (s.g g) (Go.bits .or .i64 (sideN c * 256) (sideN (nextP l s).1))))
  else (0, s.tell (s.g g) (sideN c))

/-- The statement 'r.out = append(r.out, ..)': behind the append and the store. -/
theorem isR_tell {w0 W w1 : World} {R : Nat} {l : List Int} {s : Rd} {set n : Int} {v1 : Value} (h : IsR w0 W R l s) (hown : w1.ownsRow w0.heap.size 30 2 v1 (s.out.length + 1) (tokCells s.out ++ [.int .i64 set, .int .i64 n])) (hB : Below w0.heap.size w0 w1)
    (hg : ∀ A c v, W.heap[R]? = some (.cells #[.slice A l.length c, .int .i64 s.i, .int .i64 s.g0, .int .i64 s.g1, .int .i64 s.g2, .int .i64 s.g3, .int .i64 s.left, .int .i64 s.right, v] 45 (0, 0)) → W.grownBy w1 v.ownBlock) : IsR w0 (w1.setCell ⟨R, 8, none⟩ v1) R l (s.tell set n) := by
  obtain ⟨A, c, v, h1, h2, h3, h4, h5⟩ := h
  have hgr := hg A c v h1
  have hne := own_ne h4 h1 (by decide)
  have h1' : w1.heap[R]? = some _ := blk_grown h1 hgr hne
  refine ⟨A, c, v1, blk_put h1' 8 v1 rfl, h2, h3, ?_, below_set hB h2⟩
  have hne' := own_ne hown h1' (by decide)
  have hl : (s.tell set n).out.length = s.out.length + 1 := by simp [Rd.tell]
  have hc : tokCells (s.tell set n).out = tokCells s.out ++ [.int .i64 set, .int .i64 n] := tokCells_snoc s.out (set, n)
  rw [hl, hc]
  exact own_moved hown (fun i hi => Below.heap_setCell w1 ⟨R, 8, none⟩ v1 i (by intro e; subst e; exact hne' hi.symm))

theorem place_good {l : List Int} {s : Rd} {g c : Int} (h : Good l s) (h1 : (s.out.length : Int) + 1 ≤ s.i) : Good l (placeP l s g c).2 := by
  have hn := next_good h
  have hno : (nextP l s).2.1 = 0 → (((nextP l s).2.2.out.length : Int) + 1 ≤ (nextP l s).2.2.i) := by
    unfold nextP
    split
    · intro q; simp at q
    · intro _; simp; omega
  unfold placeP
  split
  · exact h
  · split
    · exact h
    · split
      · split
        · exact hn
        · rename_i q
          have q' : (nextP l s).2.1 = 0 := by simpa using q
          have hno := hno q'
          split
          · exact hn
          · split
            · exact hn
            · obtain ⟨a, b, cc, d, e, f, g⟩ := hn
              exact ⟨a, b, by simp [Rd.tell] at *; omega, d, e, f, g⟩
      · obtain ⟨a, b, cc, d, e, f, g⟩ := h
        exact ⟨a, b, by simp [Rd.tell] at *; omega, d, e, f, g⟩

set_option maxHeartbeats 4000000 in
set_option maxRecDepth 100000 in
theorem place_calls (w0 w : World) (R : Nat) (l : List Int) (s : Rd) (k : Nat) (c : Int) (hk : k < 4) (h : IsR w0 w R l s) (hg : Good l s) (h1 : (s.out.length : Int) + 1 ≤ s.i) :
    Calls Try.prog 20 #[.pointer (some ⟨R, 0, none⟩), .int .i64 k, .int .i64 c] w (PostE w0 R l (placeP l s k c).1 (placeP l s k c).2) := by
  have H := Aside0.mk h
  have G := Aside0.mk hg
  have i1 : (k : Int) < 4 := by omega
  have hout : s.out.length ≤ 1000000 := by have := hg.i1; have := hg.n; omega
  have HS := side_calls c
  have HSide := Aside0.mk HS
  clear HS
  have n11 := hg.n
  clear h hg
  unfold placeP
  obtain ⟨st, hst⟩ : ∃ q, s.g (k : Int) = q := ⟨_, rfl⟩
  rw [hst]
  have GS := Aside0.mk hst
  clear hst
  cases ho : sideOk c with
  | false =>
    rw [if_pos rfl]
    go_enter Try.func20, Try.ntmps20
    go_upto_region 2 with (go_at_call 24; (with_reducible refine (HSide.out _).mono ?_); rintro e w1 ⟨rfl, ⟨n, rfl⟩⟩)
    have H1 := Aside0.mk (isR_drewN H.out n)
    clear H
    generalize w.drewN n = w1 at H1 ⊢
    obtain ⟨x0, f0⟩ := cell_g H1.out k hk
    rw [GS.out] at x0
    go_wp2
    go_ret
    exact ⟨rfl, H1.out⟩
  | true =>
    rw [if_neg (by decide)]
    have bd := sideN_bd c ho
    by_cases hz : st = 0
    · rw [if_pos hz]
      have t1 : (st == 0) = true := by simp [hz]
      go_enter Try.func20, Try.ntmps20
      go_upto_region 2 with (go_at_call 24; (with_reducible refine (HSide.out _).mono ?_); rintro e w1 ⟨rfl, ⟨n, rfl⟩⟩)
      have H1 := Aside0.mk (isR_drewN H.out n)
      clear H
      generalize w.drewN n = w1 at H1 ⊢
      obtain ⟨x0, f0⟩ := cell_g H1.out k hk
      rw [GS.out] at x0
      have GZ := Aside0.mk hz
      clear hz
      go_wp2
      go_ret
      exact ⟨rfl, H1.out⟩
    · rw [if_neg hz]
      have t1 : (st == 0) = false := by simp [hz]
      by_cases h7 : st = 87
      · rw [if_pos h7]
        have t2 : (st == 87) = true := by simp [h7]
        have GN := next_good G.out
        have GZ := Aside0.mk (And.intro h7 hz)
        clear h7 hz
        have hnx := fun (W : World) (hW : IsR w0 W R l s) => next_calls w0 W R l s hW G.out
        have gno : (nextP l s).2.2.out.length ≤ 1000000 := by have := GN.o; have := GN.i1; omega
        obtain ⟨q, hN⟩ : ∃ q, nextP l s = q := ⟨_, rfl⟩
        rw [hN] at hnx gno GN ⊢
        obtain ⟨d, er, s2⟩ := q
        dsimp only at hnx gno GN ⊢
        have HN := Aside0.mk hnx
        have GN := Aside0.mk GN
        have hw := wide_calls st
        have HW := Aside0.mk hw
        have HSd := Aside0.mk (side_calls d)
        clear hw hnx hN
        by_cases he : er = 0
        case neg =>
          rw [if_pos he]
          have t3 : (er != 0) = true := by simpa using he
          clear he
          go_enter Try.func20, Try.ntmps20
          go_upto_region 2 with (go_at_call 24; (with_reducible refine (HSide.out _).mono ?_); rintro e w1 ⟨rfl, ⟨n, rfl⟩⟩)
          have H1 := Aside0.mk (isR_drewN H.out n)
          clear H
          generalize w.drewN n = w1 at H1 ⊢
          obtain ⟨x0, f0⟩ := cell_g H1.out k hk
          rw [GS.out] at x0
          go_upto_region 8 with (go_at_call 8; (with_reducible refine (HW.out _).mono ?_); rintro e w2 ⟨rfl, ⟨n2, rfl⟩⟩)
          have H2 := Aside0.mk (isR_drewN H1.out n2)
          clear H1 x0 f0
          generalize w1.drewN n2 = w2 at H2 ⊢
          go_upto_region 9 with (go_at_call 16; (with_reducible refine (HN.out w2 H2.out).mono ?_); rintro e w3 ⟨rfl, h3⟩; have H3 := Aside0.mk h3; clear h3)
          clear H2
          go_wp2
          go_ret
          exact ⟨rfl, H3.out⟩
        subst he
        have t3 : ((0 : Int) != 0) = false := rfl
        rw [if_neg (fun q => q rfl)]
        cases hod : sideOk d with
        | false =>
          rw [if_pos rfl]
          go_enter Try.func20, Try.ntmps20
          go_upto_region 2 with (go_at_call 24; (with_reducible refine (HSide.out _).mono ?_); rintro e w1 ⟨rfl, ⟨n, rfl⟩⟩)
          have H1 := Aside0.mk (isR_drewN H.out n)
          clear H
          generalize w.drewN n = w1 at H1 ⊢
          obtain ⟨x0, f0⟩ := cell_g H1.out k hk
          rw [GS.out] at x0
          go_upto_region 8 with (go_at_call 8; (with_reducible refine (HW.out _).mono ?_); rintro e w2 ⟨rfl, ⟨n2, rfl⟩⟩)
          have H2 := Aside0.mk (isR_drewN H1.out n2)
          clear H1 x0 f0
          generalize w1.drewN n2 = w2 at H2 ⊢
          go_upto_region 9 with (go_at_call 16; (with_reducible refine (HN.out w2 H2.out).mono ?_); rintro e w3 ⟨rfl, h3⟩; have H3 := Aside0.mk h3; clear h3)
          clear H2
          go_upto_region 12 with (go_at_call 24; (with_reducible refine (HSd.out _).mono ?_); rintro e w4 ⟨rfl, ⟨n4, rfl⟩⟩)
          have H4 := Aside0.mk (isR_drewN H3.out n4)
          clear H3
          generalize w3.drewN n4 = w5 at H4 ⊢
          go_wp2
          go_ret
          exact ⟨rfl, H4.out⟩
        | true =>
        rw [if_neg (fun q => by cases q)]
        have bd2 := sideN_bd d hod
        by_cases hr : sideR d = sideR c
        case neg =>
          rw [if_pos hr]
          cases hR : sideR d <;> cases hC : sideR c <;> first | (exfalso; exact hr (hR.trans hC.symm)) | skip
          all_goals
            try clear hr
            go_enter Try.func20, Try.ntmps20
            go_upto_region 2 with (go_at_call 24; (with_reducible refine (HSide.out _).mono ?_); rintro e w1 ⟨rfl, ⟨n, rfl⟩⟩)
            have H1 := Aside0.mk (isR_drewN H.out n)
            clear H
            generalize w.drewN n = w1 at H1 ⊢
            obtain ⟨x0, f0⟩ := cell_g H1.out k hk
            rw [GS.out] at x0
            go_upto_region 8 with (go_at_call 8; (with_reducible refine (HW.out _).mono ?_); rintro e w2 ⟨rfl, ⟨n2, rfl⟩⟩)
            have H2 := Aside0.mk (isR_drewN H1.out n2)
            clear H1 x0 f0
            generalize w1.drewN n2 = w2 at H2 ⊢
            go_upto_region 9 with (go_at_call 16; (with_reducible refine (HN.out w2 H2.out).mono ?_); rintro e w3 ⟨rfl, h3⟩; have H3 := Aside0.mk h3; clear h3)
            clear H2
            go_upto_region 12 with (go_at_call 24; (with_reducible refine (HSd.out _).mono ?_); rintro e w4 ⟨rfl, ⟨n4, rfl⟩⟩)
            have H4 := Aside0.mk (isR_drewN H3.out n4)
            clear H3
            generalize w3.drewN n4 = w5 at H4 ⊢
            go_wp2
            go_ret
            exact ⟨rfl, H4.out⟩
        rw [if_neg (fun q => q hr)]
        cases hR : sideR d <;> cases hC : sideR c <;> first | (exfalso; rw [hR, hC] at hr; exact absurd hr (by decide)) | skip
        all_goals
          try clear hr
          go_enter Try.func20, Try.ntmps20
          go_upto_region 2 with (go_at_call 24; (with_reducible refine (HSide.out _).mono ?_); rintro e w1 ⟨rfl, ⟨n, rfl⟩⟩)
          have H1 := Aside0.mk (isR_drewN H.out n)
          clear H
          generalize w.drewN n = w1 at H1 ⊢
          obtain ⟨x0, f0⟩ := cell_g H1.out k hk
          rw [GS.out] at x0
          go_upto_region 8 with (go_at_call 8; (with_reducible refine (HW.out _).mono ?_); rintro e w2 ⟨rfl, ⟨n2, rfl⟩⟩)
          have H2 := Aside0.mk (isR_drewN H1.out n2)
          clear H1 x0 f0
          generalize w1.drewN n2 = w2 at H2 ⊢
          go_upto_region 9 with (go_at_call 16; (with_reducible refine (HN.out w2 H2.out).mono ?_); rintro e w3 ⟨rfl, h3⟩; have H3 := Aside0.mk h3; clear h3)
          clear H2
          go_upto_region 12 with (go_at_call 24; (with_reducible refine (HSd.out _).mono ?_); rintro e w4 ⟨rfl, ⟨n4, rfl⟩⟩)
          have H4 := Aside0.mk (isR_drewN H3.out n4)
          clear H3
          generalize w3.drewN n4 = w5 at H4 ⊢
          have H5 := H4
          clear H4
          obtain ⟨A, cc, v, b1, b2, b3, b4, b5⟩ := H5.out
          have x8 : w5.cell? ⟨R, 8, none⟩ = some v := (blk_cell b1 8).trans rfl
          have f8 := blk_frozen b1 8
          obtain ⟨vA, vc, rfl⟩ := own_slice b4
          have B4 := Aside0.mk b4
          have B5 := Aside0.mk b5
          have B1 := Aside0.mk b1
          clear b1 b2 b3 b4 b5
          go_wp2_with ((with_reducible refine gate_builtin (b := .append) (xs := #[.tmp 65, .tmp 69]) rfl ?_); at_builtin; refine print_append_cells (w0 := w0) w0.heap.size rfl (.tmp 65) (.tmp 69) 32 30 (.agg #[.int .i64 0, .int .i64 0]) 2 16 rfl Try.underlying32 info30 rfl (by decide) (by omega) (.slice vA s2.out.length vc) s2.out.length (tokCells s2.out) [.int .i64 st, .int .i64 (Go.bits .or .i64 (sideN c * 256) (sideN d))] rfl rfl rfl (by simp [Value.oneCell']) B4.out B5.out B5.out.size (by omega) ?_; intro v1 w6 hown hbel hgr _; obtain ⟨vA1, vc1, rfl⟩ := own_slice hown; have HO := Aside0.mk hown; have HBe := Aside0.mk hbel; have HG := Aside0.mk hgr; clear hown hbel hgr; have y1 : w6.heap[R]? = some _ := blk_grown B1.out HG.out (own_ne B4.out B1.out (by decide)); have z8 : w6.cell? ⟨R, 8, none⟩ = some (.slice vA s2.out.length vc) := (blk_cell y1 8).trans rfl; have zf := blk_frozen y1 8; clear y1)
          go_ret
          refine ⟨rfl, isR_tell H5.out HO.out HBe.out (fun A' c' v' hb => ?_)⟩
          have e := B1.out.symm.trans hb
          simp only [Option.some.injEq, Obj.cells.injEq] at e
          have e8 := congrArg (fun a : Array Value => a[8]?) e.1
          simp only [List.getElem?_toArray, List.getElem?_cons_succ, List.getElem?_cons_zero, Option.some.injEq] at e8
          rw [← e8]
          exact HG.out
      · rw [if_neg h7]
        have t2 : (st == 87) = false := by simp [h7]
        have GZ := Aside0.mk (And.intro h7 hz)
        clear h7 hz
        have hw := wide_calls st
        have HW := Aside0.mk hw
        clear hw
        go_enter Try.func20, Try.ntmps20
        go_upto_region 2 with (go_at_call 24; (with_reducible refine (HSide.out _).mono ?_); rintro e w1 ⟨rfl, ⟨n, rfl⟩⟩)
        have H1 := Aside0.mk (isR_drewN H.out n)
        clear H
        generalize w.drewN n = w1 at H1 ⊢
        obtain ⟨x0, f0⟩ := cell_g H1.out k hk
        rw [GS.out] at x0
        go_upto_region 15 with (go_at_call 8; (with_reducible refine (HW.out _).mono ?_); rintro e w2 ⟨rfl, ⟨n2, rfl⟩⟩)
        have H2 := Aside0.mk (isR_drewN H1.out n2)
        clear H1 x0 f0
        generalize w1.drewN n2 = w2 at H2 ⊢
        obtain ⟨A, cc, v, b1, b2, b3, b4, b5⟩ := H2.out
        have x8 : w2.cell? ⟨R, 8, none⟩ = some v := (blk_cell b1 8).trans rfl
        have f8 := blk_frozen b1 8
        obtain ⟨vA, vc, rfl⟩ := own_slice b4
        have B4 := Aside0.mk b4
        have B5 := Aside0.mk b5
        have B1 := Aside0.mk b1
        clear b1 b2 b3 b4 b5
        go_wp2_with ((with_reducible refine gate_builtin (b := .append) (xs := #[.tmp 65, .tmp 69]) rfl ?_); at_builtin; refine print_append_cells (w0 := w0) w0.heap.size rfl (.tmp 65) (.tmp 69) 32 30 (.agg #[.int .i64 0, .int .i64 0]) 2 16 rfl Try.underlying32 info30 rfl (by decide) (by omega) (.slice vA s.out.length vc) s.out.length (tokCells s.out) [.int .i64 st, .int .i64 (sideN c)] rfl rfl rfl (by simp [Value.oneCell']) B4.out B5.out B5.out.size (by omega) ?_; intro v1 w3 hown hbel hgr _; obtain ⟨vA1, vc1, rfl⟩ := own_slice hown; have HO := Aside0.mk hown; have HBe := Aside0.mk hbel; have HG := Aside0.mk hgr; clear hown hbel hgr; have y1 : w3.heap[R]? = some _ := blk_grown B1.out HG.out (own_ne B4.out B1.out (by decide)); have z8 : w3.cell? ⟨R, 8, none⟩ = some (.slice vA s.out.length vc) := (blk_cell y1 8).trans rfl; have zf := blk_frozen y1 8; clear y1)
        go_ret
        refine ⟨rfl, isR_tell H2.out HO.out HBe.out (fun A' c' v' hb => ?_)⟩
        have e := B1.out.symm.trans hb
        simp only [Option.some.injEq, Obj.cells.injEq] at e
        have e8 := congrArg (fun a : Array Value => a[8]?) e.1
        simp only [List.getElem?_toArray, List.getElem?_cons_succ, List.getElem?_cons_zero, Option.some.injEq] at e8
        rw [← e8]
        exact HG.out
end Go.Proofs.Ytbgmblpgdaociaa.Base
