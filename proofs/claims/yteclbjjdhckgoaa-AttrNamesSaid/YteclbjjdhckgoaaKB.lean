/- The row that '[]byte(s)' makes: its mark stands behind its last cell, so each of its cells can be written. -/
import Derived.Test.YteclbjjdhckgoaaCAttrNamesx2
namespace Go.Proofs.Yteclbjjdhckgoaa.KB
open Go.RowKit Go.Proofs.YteclbjjdhckgoaaW.PrintWords Go.Proofs.YteclbjjdhckgoaaW.PrintLast Go.Proofs.YteclbjjdhckgoaaW.PrintMore
set_option linter.unusedVariables false
set_option linter.unusedSimpArgs false
def R (w : World) (base : Nat) (ok : Nat → Prop) (v : Value) (xs : List Int) : Prop :=
  ∃ g cap cur fz, v = .slice (some ⟨g, 0, none⟩) xs.length cap ∧ ok g ∧ base ≤ g ∧ w.heap[g]? = some (.cells cur 5 fz) ∧ cur.size ≤ fz.1 ∧ xs.length ≤ cap ∧ cap ≤ 9223372036854775807 ∧ xs.length ≤ cur.size ∧
    ∀ j, j < xs.length → cur[j]? = some (.int .u8 (xs.getD j 0))
section
variable {w w1 W : World} {base : Nat} {ok ok' : Nat → Prop} {v : Value} {xs : List Int}
theorem lt_of_get {w : World} {g : Nat} {o : Obj} (h : w.heap[g]? = some o) : g < w.heap.size := (Array.getElem?_eq_some_iff.1 h).1
theorem R_step (h : R w base ok v xs) (hs : ∀ k, ok k → k < w.heap.size → w1.heap[k]? = w.heap[k]?) : R w1 base ok v xs := by
  obtain ⟨g, cap, cur, fz, e, ho, hb, hg, rest⟩ := h
  exact ⟨g, cap, cur, fz, e, ho, hb, (hs g ho (lt_of_get hg)).trans hg, rest⟩
theorem R_below (h : R w base ok v xs) (hb : Below w.heap.size w w1) : R w1 base ok v xs := R_step h (fun k _ hk => hb.block k hk)
theorem R_alloc (h : R w base ok v xs) (o : Obj) : R (w.alloc o) base ok v xs := R_below h (below_alloc (Below.refl _ _) o)
theorem R_drew (h : R w base ok v xs) : R w.drew base ok v xs := R_below h (below_drew (Below.refl _ _))
theorem R_drewN (h : R w base ok v xs) (m : Nat) : R (w.drewN m) base ok v xs := R_below h (pw_below_drewN (Below.refl _ _) m)
theorem R_mono (h : R w base ok v xs) (hok : ∀ k, ok k → ok' k) : R w base ok' v xs := by
  obtain ⟨g, cap, cur, fz, e, ho, rest⟩ := h
  exact ⟨g, cap, cur, fz, e, hok g ho, rest⟩
theorem R_lower {base' : Nat} (h : R w base ok v xs) (hb : base' ≤ base) : R w base' ok v xs := by
  obtain ⟨g, cap, cur, fz, e, ho, hbb, rest⟩ := h
  exact ⟨g, cap, cur, fz, e, ho, Nat.le_trans hb hbb, rest⟩
theorem R_far (h : R w base ok v xs) {p : Addr} (hok : ∀ k, ok k → k ≠ p.block) (u : Value) : R (w.setCell p u) base ok v xs := R_step h (fun k ho _ => Below.heap_setCell w p u k (hok k ho))
theorem R_types (h : R w base ok v xs) {g t : Nat} {cells : Array Value} (hb : w.heap[g]? = some (.cells cells t (0, 0))) (ht : 5 ≠ t) : R w base (fun k => ok k ∧ k ≠ g) v xs := by
  obtain ⟨g', cap, cur, fz, e, ho, hbb, hg, rest⟩ := h
  refine ⟨g', cap, cur, fz, e, ⟨ho, fun q => ?_⟩, hbb, hg, rest⟩
  subst q
  rw [hb] at hg
  simp only [Option.some.injEq, Obj.cells.injEq] at hg
  exact ht hg.2.1.symm
theorem R_ne (h : R w base ok v xs) {g t : Nat} {cells : Array Value} (hb : w.heap[g]? = some (.cells cells t (0, 0))) (ht : 5 ≠ t) : some g ≠ v.ownBlock := by
  obtain ⟨g', cap, cur, fz, rfl, ho, hbb, hg, rest⟩ := h
  intro q
  simp only [Value.ownBlock, Option.some.injEq] at q
  subst q
  rw [hb] at hg
  simp only [Option.some.injEq, Obj.cells.injEq] at hg
  exact ht hg.2.1.symm
theorem R_lt (h : R w base ok v xs) : ∀ k, v.ownBlock = some k → k < w.heap.size := by
  obtain ⟨g', cap, cur, fz, rfl, ho, hbb, hg, rest⟩ := h
  intro k q
  simp only [Value.ownBlock, Option.some.injEq] at q
  exact q ▸ lt_of_get hg
theorem R_base (h : R w base ok v xs) : ∀ k, v.ownBlock = some k → base ≤ k := by
  obtain ⟨g', cap, cur, fz, rfl, ho, hbb, hg, rest⟩ := h
  intro k q
  simp only [Value.ownBlock, Option.some.injEq] at q
  exact q ▸ hbb
theorem R_slice (h : R w base ok v xs) : ∃ A c, v = .slice A xs.length c := by
  obtain ⟨g', cap, cur, fz, rfl, _⟩ := h
  exact ⟨_, _, rfl⟩
theorem add0 (g j : Nat) : (⟨g, 0, none⟩ : Addr).add j = ⟨g, j, none⟩ := by unfold Addr.add; split <;> simp_all
theorem R_cell {g n cap : Nat} (h : R w base ok (.slice (some ⟨g, 0, none⟩) n cap) xs) (j : Nat) (hj : j < xs.length) : w.cell? ⟨g, j, none⟩ = some (.int .u8 (xs.getD j 0)) ∧ w.frozen? ⟨g, j, none⟩ = false := by
  obtain ⟨g', cap', cur, fz, e, ho, hbb, hg, hfz, h1, h2, h3, hc⟩ := h
  injection e with ea en ec
  injection ea with ea
  injection ea with eg _ _
  subst eg
  refine ⟨by simp only [World.cell?, hg]; exact hc j hj, ?_⟩
  obtain ⟨lo, hi⟩ := fz
  simp only [World.frozen?, hg, Bool.and_eq_false_iff, decide_eq_false_iff_not]
  left
  simp only at hfz
  omega
theorem R_reads' {A : Option Addr} {n c : Nat} (h : R w base ok (.slice A n c) xs) : n = xs.length ∧ n ≤ c ∧ (Kd.int .u8).C w A xs.length xs := by
  have h' := h
  obtain ⟨g', cap', cur, fz, e, ho, hbb, hg, hfz, h1, h2, h3, hc⟩ := h
  injection e with ea en ec
  subst ea en ec
  refine ⟨rfl, h1, Kd.C_of_reads (d := (0 : Int)) ⟨rfl, by omega, fun _ => ⟨_, rfl, fun j hj => ?_⟩⟩⟩
  rw [add0]
  exact (R_cell h' j hj).1
theorem R_form (h : R w base ok v xs) (hp : 0 < xs.length) : ∃ g cap, v = .slice (some ⟨g, 0, none⟩) xs.length cap ∧ base ≤ g ∧ g < w.heap.size ∧ ∃ cells : Array Value, True := by
  obtain ⟨g', cap, cur, fz, rfl, ho, hbb, hg, rest⟩ := h
  exact ⟨g', cap, rfl, hbb, lt_of_get hg, cur, trivial⟩
theorem R_celln {g n cap : Nat} (h : R W base ok (.slice (some ⟨g, 0, none⟩) n cap) xs) (i : Int) (h0 : 0 ≤ i) (hi : i < n) : W.cell? ⟨g, i.toNat, none⟩ = some (.int .u8 (rd xs i)) ∧ W.frozen? ⟨g, i.toNat, none⟩ = false := by
  obtain ⟨rfl, _, _⟩ := R_reads' h
  exact R_cell h i.toNat (by omega)
theorem R_putg {g n cap : Nat} (h : R W base ok (.slice (some ⟨g, 0, none⟩) n cap) xs) (i x : Int) : R (W.setCell ⟨g, i.toNat, none⟩ (.int .u8 x)) base ok (.slice (some ⟨g, 0, none⟩) n cap) (xs.set i.toNat x) ∧ W.grownBy (W.setCell ⟨g, i.toNat, none⟩ (.int .u8 x)) (some g) := by
  obtain ⟨g', cap', cur, fz, e, ho, hbb, hg, hfz, h1, h2, h3, hc⟩ := h
  injection e with ea en ec
  injection ea with ea
  injection ea with eg _ _
  subst eg en ec
  refine ⟨⟨g, cap, cur.setIfInBounds i.toNat (.int .u8 x), fz, by rw [List.length_set], ho, hbb, by simp [World.setCell, Array.getElem?_modify, hg], by simpa using hfz, by simpa using h1, h2, by simpa using h3, fun j hj => ?_⟩, ⟨rfl, rfl, rfl, by simp [World.setCell], fun k _ hk => Below.heap_setCell _ _ _ _ (fun e => hk (by simp [e]))⟩⟩
  rw [List.length_set] at hj
  rw [Array.getElem?_setIfInBounds, List.getD_eq_getElem?_getD, List.getElem?_set]
  by_cases q : i.toNat = j
  · subst q
    rw [if_pos rfl, if_pos (by omega), if_pos rfl, if_pos (by omega)]
    rfl
  · rw [if_neg q, if_neg q, hc j hj, List.getD_eq_getElem?_getD]
theorem string {P : Program} {src dst e : TypeId} (hs : P.underlying src = some (.slice e)) (he : P.underlying e = some (.int .u8)) (hd : P.underlying dst = some .string)
    (h : R w base ok v xs) : (convert src dst v).run P w = .ok (.string (strOfNums xs)) w := by
  have h' := h
  obtain ⟨g, cap, cur, fz, rfl, _⟩ := h
  refine run_convert_bytes_arg w src e hs he g 0 xs.length cap xs rfl (fun i hi => ?_) dst hd
  rw [Nat.zero_add]
  exact (R_cell h' i hi).1
end
section
variable {P : Program} {ops : Array Oper} {rest : List Oper} {o : Oper} {a : Act} {Q : Exit → Act → World → Prop}
theorem conv_str {w0 W : World} (base : Nat) (hgd : o.guard = none) (x : Operand) (src dst : TypeId) (ho : o.op = .convert src dst x)
    (hs : P.underlying src = some .string) (hd : P.underlying dst = some (.slice 5)) (he : P.underlying 5 = some (.int .u8)) (y : ByteArray) (hx : a.eval x = .string y)
    (HB : Below base w0 W) (hbase : base ≤ W.heap.size) (hl : y.size ≤ 140737488355328)
    (h : ∀ v1 w1, R w1 base (fun _ => True) v1 (bytesOf y) → Below base w0 w1 → W.grownBy w1 (Value.slice none 0 0).ownBlock → (v1.ownBlock = (Value.slice none 0 0).ownBlock ∨ ∃ b, v1.ownBlock = some b ∧ W.heap.size ≤ b) → wpList P ops Q rest (a.put o.dst v1) w1) :
    wpList P ops Q (o :: rest) a W := by
  refine wpList_plain hgd fun K hK => ?_
  have hr := Lib.run_convert_string_bytes (P := P) W src dst 5 y hs hd he
  unfold Oper.wp execOp
  simp only [ho, hx, Sem.run_bind, Sem.run_pure, Result.andThen_ok, hr]
  have hblk : ∀ k, k < W.heap.size → (Lib.bytesWorld W 5 y).heap[k]? = W.heap[k]? := fun k hk => Lib.bytesWorld_at_old W 5 y k hk
  have hsz := Lib.bytesWorld_size W 5 y
  have hgr : W.grownBy (Lib.bytesWorld W 5 y) none := ⟨by unfold Lib.bytesWorld World.freeze; split <;> rfl, by unfold Lib.bytesWorld World.freeze; split <;> rfl, by unfold Lib.bytesWorld World.freeze; split <;> rfl, by omega, fun k hk _ => hblk k hk⟩
  refine hK _ _ (h _ _ ?_ ?_ hgr (.inr ⟨_, rfl, Nat.le_refl _⟩))
  · refine ⟨W.heap.size, grownCap W y.size 0 5, Lib.bytesCells W 5 y, _, by rw [bytesOf_length], trivial, hbase, Lib.bytesWorld_at_new W 5 y, Nat.le_refl _, ?_, ?_, ?_, ?_⟩
    · rw [bytesOf_length]; exact grownCap_ge _ _ _ _
    · have := grownCap_le_maxLen W y.size 0 5 (by simp only [maxLen]; omega)
      simpa [maxLen] using this
    · rw [bytesOf_length]; simp [Lib.bytesCells]
    · intro j hj
      rw [bytesOf_length] at hj
      have hj2 : j < y.data.size := hj
      simp [Lib.bytesCells, Array.getElem?_append, bytesOf, List.getD_eq_getElem?_getD, hj, hj2, Array.getElem?_eq_getElem hj2]
  · exact HB.grown hgr hbase (by simp)
theorem conv_mk {W : World} (hgd : o.guard = none) (x : Operand) (src dst : TypeId) (ho : o.op = .convert src dst x)
    (hs : P.underlying src = some .string) (hd : P.underlying dst = some (.slice 5)) (he : P.underlying 5 = some (.int .u8)) (y : ByteArray) (hx : a.eval x = .string y) (hl : y.size ≤ 140737488355328)
    (h : ∀ v1 w1, R w1 W.heap.size (fun _ => True) v1 (bytesOf y) → Below W.heap.size W w1 → wpList P ops Q rest (a.put o.dst v1) w1) :
    wpList P ops Q (o :: rest) a W :=
  conv_str (w0 := W) W.heap.size hgd x src dst ho hs hd he y hx (Below.refl _ _) (Nat.le_refl _) hl (fun v1 w1 h1 h2 _ _ => h v1 w1 h1 h2)
theorem conv_mk2 {W : World} (hgd : o.guard = none) (x : Operand) (src dst : TypeId) (ho : o.op = .convert src dst x)
    (hs : P.underlying src = some .string) (hd : P.underlying dst = some (.slice 5)) (he : P.underlying 5 = some (.int .u8)) (y : ByteArray) (hx : a.eval x = .string y) (hl : y.size ≤ 140737488355328)
    (h : ∀ v1 w1 wz, wz = W → R w1 W.heap.size (fun _ => True) v1 (bytesOf y) → Below W.heap.size W w1 → R w1 wz.heap.size (fun _ => True) v1 (bytesOf y) → Below wz.heap.size wz w1 → wpList P ops Q rest (a.put o.dst v1) w1) :
    wpList P ops Q (o :: rest) a W :=
  conv_mk hgd x src dst ho hs hd he y hx hl (fun v1 w1 h1 h2 => h v1 w1 W rfl h1 h2 h1 h2)
end
/-- Below two worlds: the law's first one, and the one in which the name's row was made. -/
def BB (w z W : World) : Prop := Below w.heap.size w W ∧ Below z.heap.size z W
def BG (w z : World) (g : Nat) : Prop := w.heap.size ≤ g ∧ z.heap.size ≤ g
section
variable {w z W w2 : World} {g j : Nat} {v : Value}
theorem bb_alloc (h : BB w z W) (o : Obj) : BB w z (W.alloc o) := ⟨below_alloc h.1 o, below_alloc h.2 o⟩
theorem bb_drewN (h : BB w z W) (m : Nat) : BB w z (W.drewN m) := ⟨pw_below_drewN h.1 m, pw_below_drewN h.2 m⟩
theorem bb_drew1 (h : BB w z W) : BB w z W.drew := ⟨below_drew1 h.1, below_drew1 h.2⟩
theorem bb_set (h : BB w z W) (hg : BG w z g) : BB w z (W.setCell ⟨g, j, none⟩ v) := ⟨below_set h.1 hg.1, below_set h.2 hg.2⟩
theorem bb_step (h : BB w z W) (k : Below W.heap.size W w2) : BB w z w2 := ⟨below_step h.1 k, below_step h.2 k⟩
theorem bb_size (h : BB w z W) : w.heap.size ≤ W.heap.size := below_size h.1
theorem bb_size2 (h : BB w z W) : BG w z W.heap.size := ⟨below_size h.1, below_size h.2⟩
theorem bg_of (h : w.heap.size ≤ z.heap.size) (k : z.heap.size ≤ g) : BG w z g := ⟨Nat.le_trans h k, k⟩
end
end Go.Proofs.Yteclbjjdhckgoaa.KB
