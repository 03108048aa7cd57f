/- The tables, told weakly: that each ends, and that what lies below stays. -/
import Derived.Test.YteclbjjdhckgoaaTa
namespace Go.Proofs.Yteclbjjdhckgoaa.Tb
open Go.Proofs.YteclbjjdhckgoaaW.PrintWords Go.Proofs.YteclbjjdhckgoaaW.PrintLast Go.Proofs.YteclbjjdhckgoaaW.PrintMore
open Go.RowKit Go.Proofs
set_option linter.unusedVariables false
set_option linter.unusedSimpArgs false
theorem reps_any {sz n : Nat} {w : World} {base : Nat} {ok : Nat → Prop} {inner : List Value} (hl : inner.length = n * sz) (h1 : inner.all Value.oneCell' = true) : Reps ((anyK sz).M w base ok) sz (List.replicate n ()) inner := by
  refine ⟨by rw [List.length_replicate]; exact hl, fun j p hj => ⟨?_, fun u hu => List.all_eq_true.1 h1 u (List.mem_of_mem_drop (List.mem_of_mem_take hu))⟩⟩
  have hjn : j < n := by
    have := (List.getElem?_eq_some_iff.1 hj).1
    rwa [List.length_replicate] at this
  have hm : (j + 1) * sz ≤ n * sz := Nat.mul_le_mul_right sz hjn
  rw [Nat.add_mul, Nat.one_mul] at hm
  rw [List.length_take, List.length_drop, hl]
  omega
section
variable {P : Program} {ops : Array Oper} {Q : Exit → Act → World → Prop} {o : Oper} {rest : List Oper} {a : Act}
theorem gate_bs {t : TypeId} {n : Nat} {fs : Array (Nat × Operand)} {W : World} (_ho : o.op = .buildSlice t n fs) (h : wpList P ops Q (o :: rest) a W) : wpList P ops Q (o :: rest) a W := h
/-- A literal of which nothing is told but that it is a row. -/
theorem lit_any {w0 W : World} (base e : Nat) (hgd : o.guard = none)
    (hrun : ∃ n cells, (execOp a.eval o).run P W = .ok (.value (.slice (some ⟨W.heap.size, 0, none⟩) n n)) (W.alloc (.cells cells e))) (HB : Below base w0 W) (hbase : base ≤ W.heap.size)
    (h : ∀ b n w1, Below base w0 w1 → wpList P ops Q rest (a.put o.dst (.slice (some ⟨b, 0, none⟩) n n)) w1) : wpList P ops Q (o :: rest) a W := by
  obtain ⟨n, cells, hrun⟩ := hrun
  exact Kd.event_run hgd hrun (h _ _ _ (HB.alloc hbase _))
theorem lit_one {w0 W : World} (base e : Nat) (hgd : o.guard = none)
    (hrun : ∃ n cells, (execOp a.eval o).run P W = .ok (.value (.slice (some ⟨W.heap.size, 0, none⟩) n n)) (W.alloc (.cells cells e))) (HB : Below base w0 W) (hbase : base ≤ W.heap.size)
    (h : ∀ b n w1, Below W.heap.size W w1 → Below base w0 w1 → wpList P ops Q rest (a.put o.dst (.slice (some ⟨b, 0, none⟩) n n)) w1) : wpList P ops Q (o :: rest) a W := by
  obtain ⟨n, cells, hrun⟩ := hrun
  exact Kd.event_run hgd hrun (h _ _ _ (below_alloc (Below.refl _ _) _) (HB.alloc hbase _))
/-- A literal of which nothing is told but its length. -/
theorem row_any {w0 W : World} (base e sz n : Nat) (hgd : o.guard = none) {N : Tmp} (hd : o.dst = some N)
    (hrun : ∃ cells : List Value, (execOp a.eval o).run P W = .ok (.value (.slice (some ⟨W.heap.size, 0, none⟩) n n)) (W.alloc (.cells cells.toArray e)) ∧ cells.length = n * sz ∧ cells.all Value.oneCell' = true) (hn : n ≤ 1000000) (HB : Below base w0 W) (hbase : base ≤ W.heap.size)
    (h : ∀ v1 w1, (anyK sz).R e w1 base (fun _ => True) v1 (List.replicate n ()) → Below base w0 w1 → wpList P ops Q rest (a.put o.dst v1) w1) : wpList P ops Q (o :: rest) a W := by
  obtain ⟨cells, hrun, hl, h1⟩ := hrun
  refine Kd.R_lit (anyK sz) (w0 := w0) base e hgd hd (xs := List.replicate n ()) (inner := cells) (ok := fun _ => True) (okp := fun _ => True) (by rw [List.length_replicate]; exact hrun) (reps_any hl h1) (fun _ hk => hk) trivial HB hbase (by rw [List.length_replicate]; omega) (fun v1 w1 hr hb _ _ => h v1 w1 hr hb)
end
theorem i73 : (Try.prog.info? 73).map (fun i => (i.zero, i.size, i.bytes)) = some (some (.agg #[(.int .i64 0), (.slice none 0 0)]), 2, 32) := by kernel_rfl
set_option maxRecDepth 100000 in
set_option maxHeartbeats 8000000 in
theorem Compat_calls (w : World) : Calls Try.prog 33 #[] w fun e w' => ∃ (A : Option Addr) (n c : Nat), e = .returned (.slice A n c) ∧ Below w.heap.size w w' := by
  have HB := Aside0.mk (Below.refl w.heap.size w)
  go_enter Try.func33, Try.ntmps33
  simp only [List.append_eq, List.cons_append, List.nil_append]
  go_wp2_with (first | ((with_reducible refine gate_dst (N := 108) rfl ?_); refine row_any (w0 := w) w.heap.size 73 2 52 rfl (N := 108) rfl ⟨_, by (go_simp; first | rfl | exact ⟨rfl, rfl⟩), rfl, rfl⟩ (by decide) HB.out (below_size HB.out) ?_; clear HB; intro v_ w_ ho_ hb_; have HB := Aside0.mk hb_; have HO := Aside0.mk ho_; clear hb_ ho_) | ((with_reducible refine gate_bs (t := 25) rfl ?_); refine lit_any (w0 := w) w.heap.size 3 rfl ⟨_, _, by go_simp; exact ⟨rfl, rfl⟩⟩ HB.out (below_size HB.out) ?_; clear HB; intro b_ n_ w_ hb_; have HB := Aside0.mk hb_; clear hb_))
  go_loopg [1, 2] 100 (fun kq v1 v2 w' => ∃ (n : Nat) (c : Nat), v2 = .int .i64 (c : Int) ∧ c + kq = 65381 ∧ 65281 ≤ c ∧ c ≤ 65375 ∧ n ≤ 52 + c ∧ Aside0 ((anyK 2).R 73 w' w.heap.size (fun _ => True) v1 (List.replicate n ())) ∧ Aside0 (Below w.heap.size w w'))
  case atStart => exact ⟨52, 65281, rfl, rfl, by omega, by omega, by omega, HO, HB⟩
  case round =>
    clear HB HO
    obtain ⟨n, c, rfl, hk, hc0, hc1, hn, HO, HB⟩ := hrel
    by_cases hc : c ≤ 65374
    · obtain ⟨g', rfl⟩ : ∃ g', gk = g' + 1 := ⟨gk - 1, by omega⟩
      have hc' : decide ((c : Int) ≤ 65374) = true := decide_eq_true (by omega)
      have hw : wrap64 ((c : Int) + 1) = ((c + 1 : Nat) : Int) := by unfold wrap64; omega
      go_wp2_with (first | ((with_reducible refine gate_dst (N := 117) rfl ?_); refine lit_one (w0 := w) w.heap.size 3 rfl ⟨_, _, by go_simp; exact ⟨rfl, rfl⟩⟩ HB.out (below_size HB.out) ?_; intro b_ n_ w_ hc_ hb_; have HO1 := Aside0.mk (Kd.R_below HO.out hc_); clear HB HO hc_; have HB := Aside0.mk hb_; clear hb_) | ((with_reducible refine gate_builtin (b := .append) (xs := #[.tmp 113, .tmp 119]) rfl ?_); at_builtin; refine Kd.R_append (anyK 2) (w0 := w) w.heap.size rfl (.tmp 113) (.tmp 119) 55 73 (.agg #[(.int .i64 0), (.slice none 0 0)]) 32 rfl Try.underlying55 i73 rfl (by decide) (by decide) u1 (List.replicate n ()) () [.int .i64 (c : Int), .slice (some ⟨b_, 0, none⟩) n_ n_] (fun _ => True) (fun _ => False) rfl rfl ⟨rfl, fun u hu => List.all_eq_true.1 (show ([Value.int .i64 (c : Int), .slice (some ⟨b_, 0, none⟩) n_ n_].all Value.oneCell') = true from rfl) u hu⟩ (fun _ hk => hk.elim) (fun _ _ => trivial) HO1.out HB.out (below_size HB.out) (by rw [List.length_replicate]; omega) ?_; intro v1 w1 ho hb hg hat; clear hg hat))
      go_roundg g'
      case measure => omega
      case rel => exact ⟨n + 1, c + 1, by rfl, by omega, by omega, by omega, by omega, ⟨by rw [List.replicate_succ']; exact ho⟩, ⟨hb⟩⟩
    · have hc' : decide ((c : Int) ≤ 65374) = false := decide_eq_false (by omega)
      go_wp2
      go_loopg [1, 3] 100 (fun kq v1 v3 w' => ∃ (n : Nat) (c : Nat), v3 = .int .i64 (c : Int) ∧ c + kq = 9412 ∧ 9312 ≤ c ∧ c ≤ 9321 ∧ n ≤ 70000 + c ∧ Aside0 ((anyK 2).R 73 w' w.heap.size (fun _ => True) v1 (List.replicate n ())) ∧ Aside0 (Below w.heap.size w w'))
      case atStart => exact ⟨n, 9312, rfl, rfl, by omega, by omega, by omega, HO, HB⟩
      case round =>
        clear HB HO hc' hc0 hc1 hc hk hn
        obtain ⟨n, c, rfl, hk, hc0, hc1, hn, HO, HB⟩ := hrel
        by_cases hc : c ≤ 9320
        · obtain ⟨g', rfl⟩ : ∃ g', gk = g' + 1 := ⟨gk - 1, by omega⟩
          have hc' : decide ((c : Int) ≤ 9320) = true := decide_eq_true (by omega)
          have hw : wrap64 ((c : Int) + 1) = ((c + 1 : Nat) : Int) := by unfold wrap64; omega
          go_wp2_with (first | ((with_reducible refine gate_dst (N := 130) rfl ?_); refine lit_one (w0 := w) w.heap.size 3 rfl ⟨_, _, by go_simp; exact ⟨rfl, rfl⟩⟩ HB.out (below_size HB.out) ?_; intro b_ n_ w_ hc_ hb_; have HO1 := Aside0.mk (Kd.R_below HO.out hc_); clear HB HO hc_; have HB := Aside0.mk hb_; clear hb_) | ((with_reducible refine gate_builtin (b := .append) (xs := #[.tmp 125, .tmp 132]) rfl ?_); at_builtin; refine Kd.R_append (anyK 2) (w0 := w) w.heap.size rfl (.tmp 125) (.tmp 132) 55 73 (.agg #[(.int .i64 0), (.slice none 0 0)]) 32 rfl Try.underlying55 i73 rfl (by decide) (by decide) u1 (List.replicate n ()) () [.int .i64 (c : Int), .slice (some ⟨b_, 0, none⟩) n_ n_] (fun _ => True) (fun _ => False) rfl rfl ⟨rfl, fun u hu => List.all_eq_true.1 (show ([Value.int .i64 (c : Int), .slice (some ⟨b_, 0, none⟩) n_ n_].all Value.oneCell') = true from rfl) u hu⟩ (fun _ hk => hk.elim) (fun _ _ => trivial) HO1.out HB.out (below_size HB.out) (by rw [List.length_replicate]; omega) ?_; intro v1 w1 ho hb hg hat; clear hg hat))
          go_roundg g'
          case measure => omega
          case rel => exact ⟨n + 1, c + 1, by rfl, by omega, by omega, by omega, by omega, ⟨by rw [List.replicate_succ']; exact ho⟩, ⟨hb⟩⟩
        · have hc' : decide ((c : Int) ≤ 9320) = false := decide_eq_false (by omega)
          go_wp2
          go_ret
          obtain ⟨Ar, cr, hv⟩ := Kd.R_slice HO.out
          exact ⟨Ar, _, cr, congrArg Ending.returned hv, HB.out⟩
end Go.Proofs.Yteclbjjdhckgoaa.Tb
