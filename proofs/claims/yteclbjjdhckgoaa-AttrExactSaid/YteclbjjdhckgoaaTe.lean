/- Codes, told weakly: the variable that its function puts into. -/
import Derived.Test.YteclbjjdhckgoaaTc
namespace Go.Proofs.Yteclbjjdhckgoaa.Tb
open Go.Proofs.YteclbjjdhckgoaaW.PrintWords Go.Proofs.YteclbjjdhckgoaaW.PrintLast Go.Proofs.YteclbjjdhckgoaaW.PrintMore
open Go.RowKit Go.Proofs
set_option linter.unusedVariables false
set_option linter.unusedSimpArgs false
/-- The variable (block g) holds a row of n codes, of the call's own. -/
def LS (w0 w : World) (g n : Nat) : Prop := w0.heap.size ≤ g ∧ Below w0.heap.size w0 w ∧ ∃ v, w.heap[g]? = some (.cells #[v] 62 (0, 0)) ∧ (anyK 3).R 77 w w0.heap.size (fun k => k ≠ g) v (List.replicate n ())
theorem i77 : (Try.prog.info? 77).map (fun i => (i.zero, i.size, i.bytes)) = some (some (.agg #[(.int .i64 0), (.int .i64 0), (.int .i64 0)]), 3, 24) := by kernel_rfl
theorem runes_le (s : ByteArray) (h : s.size ≤ 100000) (w : World) :
    Calls Try.prog 41 #[.string s] w fun e w' => ∃ (v0_ : Value) (r : List Int), e = .returned (v0_) ∧ Kd.R (Kd.int .i64) 3 w' w.heap.size (fun _ => True) v0_ r ∧ r.length ≤ s.size ∧ Below w.heap.size w w' := by
  refine (runes_calls s (runesF s s.size 0) w (by unfold runesO; rw [if_pos h])).mono ?_
  rintro e w' ⟨v, rfl, hr, hb⟩
  refine ⟨v, _, rfl, hr, ?_, hb⟩
  have : ∀ k pos, (runesF s k pos).length ≤ k := by
    intro k
    induction k with
    | zero => intro pos; rw [runesF]; simp
    | succ k ih =>
      intro pos
      rw [runesF]
      split
      · rw [List.length_cons]; have := ih (pos + (Utf8.decode s pos).2); omega
      · simp
  exact this _ _
theorem all3 (a b c : Int) : ∀ u ∈ [Value.int .i64 a, .int .i64 b, .int .i64 c], u.oneCell' = true := fun u hu => List.all_eq_true.1 (show ([Value.int .i64 a, .int .i64 b, .int .i64 c].all Value.oneCell') = true from rfl) u hu
section
variable {ops : Array Oper} {Q : Exit → Act → World → Prop} {o : Oper} {rest : List Oper} {a : Act}
/-- One code behind a row of codes. -/
theorem app_code {w0 W : World} (g : Nat) (hgd : o.guard = none) (s x : Operand)
    (ho : o.op = .call { callee := .builtin .append, args := #[s, x], argTypes := #[62, 62] })
    (v : Value) (n : Nat) (i j k : Int) (hs : a.eval s = v) (hx : a.eval x = .slice (some ⟨W.heap.size, 0, none⟩) 1 1) (hg0 : w0.heap.size ≤ g) (BK : W.heap[g]? = some (.cells #[v] 62 (0, 0))) (hn : n ≤ 200000)
    (HO : (anyK 3).R 77 W w0.heap.size (fun k => k ≠ g) v (List.replicate n ())) (HB : Below w0.heap.size w0 W)
    (h : ∀ A c w1, W.grownBy w1 v.ownBlock → w1.cell? ⟨g, 0, none⟩ = some v → w1.frozen? ⟨g, 0, none⟩ = false → (w1.setCell ⟨g, 0, none⟩ (.slice A (n + 1) c)).heap[g]? = some (.cells #[.slice A (n + 1) c] 62 (0, 0)) → (anyK 3).R 77 (w1.setCell ⟨g, 0, none⟩ (.slice A (n + 1) c)) w0.heap.size (fun k => k ≠ g) (.slice A (n + 1) c) (List.replicate (n + 1) ()) → Below w0.heap.size w0 (w1.setCell ⟨g, 0, none⟩ (.slice A (n + 1) c)) → w1.heap[g]? = some (.cells #[v] 62 (0, 0)) → wpList Try.prog ops Q rest (a.put o.dst (.slice A (n + 1) c)) w1) :
    wpList Try.prog ops Q (o :: rest) a (W.alloc (.cells #[.int .i64 i, .int .i64 j, .int .i64 k] 77)) := by
  refine Kd.R_append (anyK 3) (w0 := w0) w0.heap.size hgd s x 62 77 (.agg #[(.int .i64 0), (.int .i64 0), (.int .i64 0)]) 24 ho Try.underlying62 i77 rfl (by decide) (by decide) v (List.replicate n ()) () [.int .i64 i, .int .i64 j, .int .i64 k] (fun k => k ≠ g) (fun _ => False) hs hx ⟨rfl, all3 _ _ _⟩ (fun _ hk => hk.elim) (fun k hk => by have := blk_lt BK; omega) HO HB (below_size HB) (by rw [List.length_replicate]; omega) ?_
  intro v1 w1 ho1 hb hg hat
  obtain ⟨A, c, rfl⟩ := Kd.R_slice ho1
  have e : (List.replicate n () ++ [()]).length = n + 1 := by simp
  rw [e, ← List.replicate_succ'] at ho1
  rw [e]
  have BK1 := blk_grown BK hg (fun e => HO.1 _ e.symm rfl)
  exact h A c w1 hg ((blk_cell BK1 0).trans rfl) (blk_frozen BK1 0) (blk_put BK1 0 _ rfl) (Kd.R_far (p := ⟨g, 0, none⟩) ho1 (fun k hk => hk) _) (below_set hb hg0) BK1
end
set_option maxRecDepth 100000 in
set_option maxHeartbeats 8000000 in
theorem Put_calls (w0 w : World) (g n : Nat) (s f : Int) (t : ByteArray) (hs : t.size ≤ 1000) (hn : n ≤ 100000) (h : LS w0 w g n) :
    Calls Try.prog 42 #[.int .i64 s, .int .i64 f, .string t, .pointer (some ⟨g, 0, none⟩)] w fun e w' => e = .returned (.tuple #[]) ∧ ∃ n', n' ≤ n + 1000 ∧ LS w0 w' g n' := by
  obtain ⟨hg0, hB, v, hbk, hR⟩ := h
  have HB := Aside0.mk hB
  have BK := Aside0.mk hbk
  have HO := Aside0.mk hR
  clear hB hbk hR
  go_enter Try.func42, Try.ntmps42
  go_wp2_with ((with_reducible refine gate_dst (N := 10) rfl ?_); refine goesL_ (some 10) rfl rfl Try.func41 (by kernel_rfl) rfl #[.string t] rfl (by (try simp only [List.map_toArray, List.map_cons, List.map_nil]); first | done | rfl) ?_; (refine (runes_le t (by omega) _).mono ?_); rintro e w_ ⟨va, ta, rfl, ho0, htl, hb⟩; refine ⟨_, rfl, ?_⟩; obtain ⟨Aa, ca, rfl⟩ := Kd.R_slice ho0; have HA := Aside0.mk (Kd.R_lower ho0 (below_size HB.out)); have n0_ := Aside0.mk (Kd.R_below HO.out hb); have n1_ := Aside0.mk (below_step HB.out hb); have n2_ := Aside0.mk (blk_below BK.out hb); clear HO HB BK; have HO := n0_; have HB := n1_; have BK := n2_; clear n0_ n1_ n2_ ho0 hb)
  go_loopg [12] ta.length (fun kq v12 w' => ∃ (m : Nat) (x : Int) (v : Value), v12 = .int .i64 x ∧ x + kq = ta.length ∧ 0 ≤ x ∧ m ≤ n + x ∧ Aside0 (w'.heap[g]? = some (.cells #[v] 62 (0, 0))) ∧ Aside0 ((anyK 3).R 77 w' w0.heap.size (fun k => k ≠ g) v (List.replicate m ())) ∧ Aside0 (Kd.R (Kd.int .i64) 3 w' w0.heap.size (fun _ => True) (.slice Aa ta.length ca) ta) ∧ Aside0 (Below w0.heap.size w0 w'))
  case atStart => exact ⟨n, 0, v, rfl, by omega, by omega, by omega, BK, HO, HA, HB⟩
  case round =>
    clear BK HO HA HB
    obtain ⟨m, x, v, rfl, hk, hx0, hm, BK, HO, HA, HB⟩ := hrel
    by_cases hc : x < (ta.length : Int)
    · obtain ⟨g', rfl⟩ : ∃ g', gk = g' + 1 := ⟨gk - 1, by omega⟩
      have hc' : decide (x < (ta.length : Int)) = true := decide_eq_true hc
      obtain ⟨ad1, e1, hx1⟩ := Kd.at_int (Kd.R_reads' HA.out).2.2 x hx0 hc
      cases e1
      have hw : wrap64 (x + 1) = x + 1 := by unfold wrap64; omega
      have p1 : (0 ≤ x) = True := eq_true (by omega)
      have q1 : (x < (ta.length : Int)) = True := eq_true (by omega)
      have hc0 : wr.cell? ⟨g, 0, none⟩ = some v := (blk_cell BK.out 0).trans rfl
      have hf0 := blk_frozen BK.out 0
      by_cases hsp : rd ta x = 32
      · have hs' : decide (rd ta x = 32) = true := decide_eq_true hsp
        go_wp2
        go_roundg g'
        case measure => omega
        case rel => exact ⟨m, x + 1, v, by first | rfl | rw [hw], by omega, by omega, by omega, BK, HO, HA, HB⟩
      · have hs' : decide (rd ta x = 32) = false := decide_eq_false hsp
        go_wp2_with ((with_reducible refine gate_builtin (b := .append) (xs := #[.tmp 19, .tmp 26]) rfl ?_); at_builtin; refine app_code (w0 := w0) g rfl (.tmp 19) (.tmp 26) rfl _ m _ _ _ rfl rfl hg0 BK.out (by omega) HO.out HB.out ?_; intro A1_ c1_ w1 hg h1 h2 h3 h4 h5 h6; have n0_ := Aside0.mk (Kd.R_set (Kd.R_over' HA.out (Kd.R_typed HO.out) (by decide) hg) h6 (by decide) 0 (.slice A1_ (m + 1) c1_)); clear HA BK HO HB hc0 hf0 hg h6; have HA := n0_; have BK := Aside0.mk h3; have HO := Aside0.mk h4; have HB := Aside0.mk h5; clear h3 h4 h5 n0_)
        go_roundg g'
        case measure => omega
        case rel => exact ⟨m + 1, x + 1, _, by first | rfl | rw [hw], by omega, by omega, by omega, BK, HO, HA, HB⟩
    · have hc' : decide (x < (ta.length : Int)) = false := decide_eq_false hc
      go_wp2
      first | go_end0 | ((try simp only [Exit.inBlock, Exit.then]); refine bodyPost_ret (results_none rfl _ _ _) rfl ?_)
      exact ⟨rfl, m, by omega, hg0, HB.out, v, BK.out, HO.out⟩
def LB (w0 w : World) (g b : Nat) : Prop := ∃ n, n ≤ b ∧ LS w0 w g n
theorem Put_calls2 (w0 w : World) (g b : Nat) (s f : Int) (t : ByteArray) (h : LB w0 w g b) (hb : b ≤ 100000) (hs : decide (t.size ≤ 1000) = true) :
    Calls Try.prog 42 #[.int .i64 s, .int .i64 f, .string t, .pointer (some ⟨g, 0, none⟩)] w fun e w' => e = .returned (.tuple #[]) ∧ LB w0 w' g (b + 1000) := by
  obtain ⟨n, hn, h⟩ := h
  refine (Put_calls w0 w g n s f t (of_decide_eq_true hs) (by omega) h).mono ?_
  rintro e w' ⟨he, n', h1, h2⟩
  exact ⟨he, n', by omega, h2⟩
set_option maxRecDepth 100000 in
set_option maxHeartbeats 8000000 in
theorem Codes_calls (w : World) : Calls Try.prog 37 #[] w fun e w' => ∃ (A : Option Addr) (n c : Nat), e = .returned (.slice A n c) ∧ Below w.heap.size w w' := by
  have hmf : ∀ (fn : Fn) (first cap : Array Value) (w : World), (Instr.makeFunc fn first cap).run Try.prog w = .ok (.func fn first cap) w := fun _ _ _ _ => rfl
  have HB := Aside0.mk (Below.refl w.heap.size w)
  go_enter Try.func37, Try.ntmps37
  simp only [List.append_eq, List.cons_append, List.nil_append]
  generalize h1 : ByteArray.mk _ = s1
  have q1 : decide (s1.size ≤ 1000) = true := by rw [← h1]; kernel_rfl
  clear h1
  generalize h2 : ByteArray.mk _ = s2
  have q2 : decide (s2.size ≤ 1000) = true := by rw [← h2]; kernel_rfl
  clear h2
  generalize h3 : ByteArray.mk _ = s3
  have q3 : decide (s3.size ≤ 1000) = true := by rw [← h3]; kernel_rfl
  clear h3
  generalize h4 : ByteArray.mk _ = s4
  have q4 : decide (s4.size ≤ 1000) = true := by rw [← h4]; kernel_rfl
  clear h4
  generalize h5 : ByteArray.mk _ = s5
  have q5 : decide (s5.size ≤ 1000) = true := by rw [← h5]; kernel_rfl
  clear h5
  go_wp2_with ((with_reducible refine gate_dst (N := 1) rfl ?_); refine box_event ?hg (N := 1) ?hd (cs := #[.slice none 0 0]) (t := 62) ?hr ?_; (case hd => rfl); (case hg => rfl); (case hr => first | (go_simp; done) | (go_simp; rfl)); intro g hg w1 hbox hb; have hg0 : w.heap.size ≤ g := Nat.le_of_eq hg.symm; have BK := Aside0.mk hbox; clear HB; have HB := Aside0.mk hb; clear hbox hb hg)
  go_loopg [2] 200 (fun kq v2 w' => ∃ (m c : Nat) (v : Value), v2 = .int .i64 (c : Int) ∧ c + kq = 233 ∧ 33 ≤ c ∧ c ≤ 127 ∧ m ≤ 2 * c ∧ Aside0 (w'.heap[g]? = some (.cells #[v] 62 (0, 0))) ∧ Aside0 ((anyK 3).R 77 w' w.heap.size (fun k => k ≠ g) v (List.replicate m ())) ∧ Aside0 (Below w.heap.size w w'))
  case atStart => exact ⟨0, 33, _, rfl, rfl, by omega, by omega, by omega, BK, ⟨Kd.R_nil _ _ _ _ _⟩, HB⟩
  case round =>
    clear BK HB
    obtain ⟨m, c, v, rfl, hk, hx0, hx1, hm, BK, HO, HB⟩ := hrel
    have hc0 : wr.cell? ⟨g, 0, none⟩ = some v := (blk_cell BK.out 0).trans rfl
    have hf0 := blk_frozen BK.out 0
    by_cases hc : c ≤ 126
    · obtain ⟨g', rfl⟩ : ∃ g', gk = g' + 1 := ⟨gk - 1, by omega⟩
      have hc' : decide ((c : Int) ≤ 126) = true := decide_eq_true (by omega)
      have hw : wrap64 ((c : Int) + 1) = ((c + 1 : Nat) : Int) := by unfold wrap64; omega
      by_cases q36 : c = 36
      · have e36 : ((c : Int) == 36) = true := beq_iff_eq.2 (by omega)
        go_wp2_with (first | ((with_reducible refine gate_builtin (b := .append) (xs := #[.tmp 10, .tmp 14]) rfl ?_); at_builtin; refine app_code (w0 := w) g rfl (.tmp 10) (.tmp 14) rfl _ (m) _ _ _ rfl rfl hg0 BK.out (by omega) HO.out HB.out ?_; intro A10_ c10_ w10 hg h1 h2 h3 h4 h5 h6; clear BK HO HB hg h6; have BK := Aside0.mk h3; have HO := Aside0.mk h4; have HB := Aside0.mk h5; clear h3 h4 h5) | ((with_reducible refine gate_builtin (b := .append) (xs := #[.tmp 25, .tmp 28]) rfl ?_); at_builtin; refine app_code (w0 := w) g rfl (.tmp 25) (.tmp 28) rfl _ (m + 1) _ _ _ rfl (by first | rfl | (rw [World.size_setCell]; rfl)) hg0 BK.out (by omega) HO.out HB.out ?_; intro A25_ c25_ w25 hg h1 h2 h3 h4 h5 h6; clear BK HO HB hg h6; have BK := Aside0.mk h3; have HO := Aside0.mk h4; have HB := Aside0.mk h5; clear h3 h4 h5) | ((with_reducible refine gate_builtin (b := .append) (xs := #[.tmp 16, .tmp 20]) rfl ?_); at_builtin; refine app_code (w0 := w) g rfl (.tmp 16) (.tmp 20) rfl _ (m + 1) _ _ _ rfl (by first | rfl | (rw [World.size_setCell]; rfl)) hg0 BK.out (by omega) HO.out HB.out ?_; intro A16_ c16_ w16 hg h1 h2 h3 h4 h5 h6; clear BK HO HB hg h6; have BK := Aside0.mk h3; have HO := Aside0.mk h4; have HB := Aside0.mk h5; clear h3 h4 h5))
        go_roundg g'
        case measure => omega
        case rel => exact ⟨m + 2, c + 1, _, by first | rfl | rw [hw] | (subst_vars; rfl), by omega, by omega, by omega, by omega, BK, HO, HB⟩
      · skip
        by_cases q92 : c = 92
        · have e36 : ((c : Int) == 36) = false := beq_eq_false_iff_ne.2 (by omega)
          have e92 : ((c : Int) == 92) = true := beq_iff_eq.2 (by omega)
          go_wp2_with (first | ((with_reducible refine gate_builtin (b := .append) (xs := #[.tmp 10, .tmp 14]) rfl ?_); at_builtin; refine app_code (w0 := w) g rfl (.tmp 10) (.tmp 14) rfl _ (m) _ _ _ rfl rfl hg0 BK.out (by omega) HO.out HB.out ?_; intro A10_ c10_ w10 hg h1 h2 h3 h4 h5 h6; clear BK HO HB hg h6; have BK := Aside0.mk h3; have HO := Aside0.mk h4; have HB := Aside0.mk h5; clear h3 h4 h5) | ((with_reducible refine gate_builtin (b := .append) (xs := #[.tmp 25, .tmp 28]) rfl ?_); at_builtin; refine app_code (w0 := w) g rfl (.tmp 25) (.tmp 28) rfl _ (m + 1) _ _ _ rfl (by first | rfl | (rw [World.size_setCell]; rfl)) hg0 BK.out (by omega) HO.out HB.out ?_; intro A25_ c25_ w25 hg h1 h2 h3 h4 h5 h6; clear BK HO HB hg h6; have BK := Aside0.mk h3; have HO := Aside0.mk h4; have HB := Aside0.mk h5; clear h3 h4 h5) | ((with_reducible refine gate_builtin (b := .append) (xs := #[.tmp 16, .tmp 20]) rfl ?_); at_builtin; refine app_code (w0 := w) g rfl (.tmp 16) (.tmp 20) rfl _ (m + 1) _ _ _ rfl (by first | rfl | (rw [World.size_setCell]; rfl)) hg0 BK.out (by omega) HO.out HB.out ?_; intro A16_ c16_ w16 hg h1 h2 h3 h4 h5 h6; clear BK HO HB hg h6; have BK := Aside0.mk h3; have HO := Aside0.mk h4; have HB := Aside0.mk h5; clear h3 h4 h5))
          go_roundg g'
          case measure => omega
          case rel => exact ⟨m + 1, c + 1, _, by first | rfl | rw [hw] | (subst_vars; rfl), by omega, by omega, by omega, by omega, BK, HO, HB⟩
        · skip
          by_cases q94 : c = 94
          · have e36 : ((c : Int) == 36) = false := beq_eq_false_iff_ne.2 (by omega)
            have e92 : ((c : Int) == 92) = false := beq_eq_false_iff_ne.2 (by omega)
            have e94 : ((c : Int) == 94) = true := beq_iff_eq.2 (by omega)
            go_wp2_with (first | ((with_reducible refine gate_builtin (b := .append) (xs := #[.tmp 10, .tmp 14]) rfl ?_); at_builtin; refine app_code (w0 := w) g rfl (.tmp 10) (.tmp 14) rfl _ (m) _ _ _ rfl rfl hg0 BK.out (by omega) HO.out HB.out ?_; intro A10_ c10_ w10 hg h1 h2 h3 h4 h5 h6; clear BK HO HB hg h6; have BK := Aside0.mk h3; have HO := Aside0.mk h4; have HB := Aside0.mk h5; clear h3 h4 h5) | ((with_reducible refine gate_builtin (b := .append) (xs := #[.tmp 25, .tmp 28]) rfl ?_); at_builtin; refine app_code (w0 := w) g rfl (.tmp 25) (.tmp 28) rfl _ (m + 1) _ _ _ rfl (by first | rfl | (rw [World.size_setCell]; rfl)) hg0 BK.out (by omega) HO.out HB.out ?_; intro A25_ c25_ w25 hg h1 h2 h3 h4 h5 h6; clear BK HO HB hg h6; have BK := Aside0.mk h3; have HO := Aside0.mk h4; have HB := Aside0.mk h5; clear h3 h4 h5) | ((with_reducible refine gate_builtin (b := .append) (xs := #[.tmp 16, .tmp 20]) rfl ?_); at_builtin; refine app_code (w0 := w) g rfl (.tmp 16) (.tmp 20) rfl _ (m + 1) _ _ _ rfl (by first | rfl | (rw [World.size_setCell]; rfl)) hg0 BK.out (by omega) HO.out HB.out ?_; intro A16_ c16_ w16 hg h1 h2 h3 h4 h5 h6; clear BK HO HB hg h6; have BK := Aside0.mk h3; have HO := Aside0.mk h4; have HB := Aside0.mk h5; clear h3 h4 h5))
            go_roundg g'
            case measure => omega
            case rel => exact ⟨m + 1, c + 1, _, by first | rfl | rw [hw] | (subst_vars; rfl), by omega, by omega, by omega, by omega, BK, HO, HB⟩
          · skip
            by_cases q96 : c = 96
            · have e36 : ((c : Int) == 36) = false := beq_eq_false_iff_ne.2 (by omega)
              have e92 : ((c : Int) == 92) = false := beq_eq_false_iff_ne.2 (by omega)
              have e94 : ((c : Int) == 94) = false := beq_eq_false_iff_ne.2 (by omega)
              have e96 : ((c : Int) == 96) = true := beq_iff_eq.2 (by omega)
              go_wp2_with (first | ((with_reducible refine gate_builtin (b := .append) (xs := #[.tmp 10, .tmp 14]) rfl ?_); at_builtin; refine app_code (w0 := w) g rfl (.tmp 10) (.tmp 14) rfl _ (m) _ _ _ rfl rfl hg0 BK.out (by omega) HO.out HB.out ?_; intro A10_ c10_ w10 hg h1 h2 h3 h4 h5 h6; clear BK HO HB hg h6; have BK := Aside0.mk h3; have HO := Aside0.mk h4; have HB := Aside0.mk h5; clear h3 h4 h5) | ((with_reducible refine gate_builtin (b := .append) (xs := #[.tmp 25, .tmp 28]) rfl ?_); at_builtin; refine app_code (w0 := w) g rfl (.tmp 25) (.tmp 28) rfl _ (m + 1) _ _ _ rfl (by first | rfl | (rw [World.size_setCell]; rfl)) hg0 BK.out (by omega) HO.out HB.out ?_; intro A25_ c25_ w25 hg h1 h2 h3 h4 h5 h6; clear BK HO HB hg h6; have BK := Aside0.mk h3; have HO := Aside0.mk h4; have HB := Aside0.mk h5; clear h3 h4 h5) | ((with_reducible refine gate_builtin (b := .append) (xs := #[.tmp 16, .tmp 20]) rfl ?_); at_builtin; refine app_code (w0 := w) g rfl (.tmp 16) (.tmp 20) rfl _ (m + 1) _ _ _ rfl (by first | rfl | (rw [World.size_setCell]; rfl)) hg0 BK.out (by omega) HO.out HB.out ?_; intro A16_ c16_ w16 hg h1 h2 h3 h4 h5 h6; clear BK HO HB hg h6; have BK := Aside0.mk h3; have HO := Aside0.mk h4; have HB := Aside0.mk h5; clear h3 h4 h5))
              go_roundg g'
              case measure => omega
              case rel => exact ⟨m + 1, c + 1, _, by first | rfl | rw [hw] | (subst_vars; rfl), by omega, by omega, by omega, by omega, BK, HO, HB⟩
            · skip
              by_cases q123 : c < 123
              · have e36 : ((c : Int) == 36) = false := beq_eq_false_iff_ne.2 (by omega)
                have e92 : ((c : Int) == 92) = false := beq_eq_false_iff_ne.2 (by omega)
                have e94 : ((c : Int) == 94) = false := beq_eq_false_iff_ne.2 (by omega)
                have e96 : ((c : Int) == 96) = false := beq_eq_false_iff_ne.2 (by omega)
                have g123 : decide ((c : Int) ≥ 123) = false := decide_eq_false (by omega)
                have f123 : decide (123 ≤ (c : Int)) = false := decide_eq_false (by omega)
                go_wp2_with (first | ((with_reducible refine gate_builtin (b := .append) (xs := #[.tmp 10, .tmp 14]) rfl ?_); at_builtin; refine app_code (w0 := w) g rfl (.tmp 10) (.tmp 14) rfl _ (m) _ _ _ rfl rfl hg0 BK.out (by omega) HO.out HB.out ?_; intro A10_ c10_ w10 hg h1 h2 h3 h4 h5 h6; clear BK HO HB hg h6; have BK := Aside0.mk h3; have HO := Aside0.mk h4; have HB := Aside0.mk h5; clear h3 h4 h5) | ((with_reducible refine gate_builtin (b := .append) (xs := #[.tmp 25, .tmp 28]) rfl ?_); at_builtin; refine app_code (w0 := w) g rfl (.tmp 25) (.tmp 28) rfl _ (m + 1) _ _ _ rfl (by first | rfl | (rw [World.size_setCell]; rfl)) hg0 BK.out (by omega) HO.out HB.out ?_; intro A25_ c25_ w25 hg h1 h2 h3 h4 h5 h6; clear BK HO HB hg h6; have BK := Aside0.mk h3; have HO := Aside0.mk h4; have HB := Aside0.mk h5; clear h3 h4 h5) | ((with_reducible refine gate_builtin (b := .append) (xs := #[.tmp 16, .tmp 20]) rfl ?_); at_builtin; refine app_code (w0 := w) g rfl (.tmp 16) (.tmp 20) rfl _ (m + 1) _ _ _ rfl (by first | rfl | (rw [World.size_setCell]; rfl)) hg0 BK.out (by omega) HO.out HB.out ?_; intro A16_ c16_ w16 hg h1 h2 h3 h4 h5 h6; clear BK HO HB hg h6; have BK := Aside0.mk h3; have HO := Aside0.mk h4; have HB := Aside0.mk h5; clear h3 h4 h5))
                go_roundg g'
                case measure => omega
                case rel => exact ⟨m + 2, c + 1, _, by first | rfl | rw [hw] | (subst_vars; rfl), by omega, by omega, by omega, by omega, BK, HO, HB⟩
              · skip
                by_cases q124 : c = 124
                · have e36 : ((c : Int) == 36) = false := beq_eq_false_iff_ne.2 (by omega)
                  have e92 : ((c : Int) == 92) = false := beq_eq_false_iff_ne.2 (by omega)
                  have e94 : ((c : Int) == 94) = false := beq_eq_false_iff_ne.2 (by omega)
                  have e96 : ((c : Int) == 96) = false := beq_eq_false_iff_ne.2 (by omega)
                  have g123 : decide ((c : Int) ≥ 123) = true := decide_eq_true (by omega)
                  have f123 : decide (123 ≤ (c : Int)) = true := decide_eq_true (by omega)
                  have e124 : ((c : Int) == 124) = true := beq_iff_eq.2 (by omega)
                  go_wp2_with (first | ((with_reducible refine gate_builtin (b := .append) (xs := #[.tmp 10, .tmp 14]) rfl ?_); at_builtin; refine app_code (w0 := w) g rfl (.tmp 10) (.tmp 14) rfl _ (m) _ _ _ rfl rfl hg0 BK.out (by omega) HO.out HB.out ?_; intro A10_ c10_ w10 hg h1 h2 h3 h4 h5 h6; clear BK HO HB hg h6; have BK := Aside0.mk h3; have HO := Aside0.mk h4; have HB := Aside0.mk h5; clear h3 h4 h5) | ((with_reducible refine gate_builtin (b := .append) (xs := #[.tmp 25, .tmp 28]) rfl ?_); at_builtin; refine app_code (w0 := w) g rfl (.tmp 25) (.tmp 28) rfl _ (m + 1) _ _ _ rfl (by first | rfl | (rw [World.size_setCell]; rfl)) hg0 BK.out (by omega) HO.out HB.out ?_; intro A25_ c25_ w25 hg h1 h2 h3 h4 h5 h6; clear BK HO HB hg h6; have BK := Aside0.mk h3; have HO := Aside0.mk h4; have HB := Aside0.mk h5; clear h3 h4 h5) | ((with_reducible refine gate_builtin (b := .append) (xs := #[.tmp 16, .tmp 20]) rfl ?_); at_builtin; refine app_code (w0 := w) g rfl (.tmp 16) (.tmp 20) rfl _ (m + 1) _ _ _ rfl (by first | rfl | (rw [World.size_setCell]; rfl)) hg0 BK.out (by omega) HO.out HB.out ?_; intro A16_ c16_ w16 hg h1 h2 h3 h4 h5 h6; clear BK HO HB hg h6; have BK := Aside0.mk h3; have HO := Aside0.mk h4; have HB := Aside0.mk h5; clear h3 h4 h5))
                  go_roundg g'
                  case measure => omega
                  case rel => exact ⟨m + 2, c + 1, _, by first | rfl | rw [hw] | (subst_vars; rfl), by omega, by omega, by omega, by omega, BK, HO, HB⟩
                · have e36 : ((c : Int) == 36) = false := beq_eq_false_iff_ne.2 (by omega)
                  have e92 : ((c : Int) == 92) = false := beq_eq_false_iff_ne.2 (by omega)
                  have e94 : ((c : Int) == 94) = false := beq_eq_false_iff_ne.2 (by omega)
                  have e96 : ((c : Int) == 96) = false := beq_eq_false_iff_ne.2 (by omega)
                  have g123 : decide ((c : Int) ≥ 123) = true := decide_eq_true (by omega)
                  have f123 : decide (123 ≤ (c : Int)) = true := decide_eq_true (by omega)
                  have e124 : ((c : Int) == 124) = false := beq_eq_false_iff_ne.2 (by omega)
                  go_wp2_with (first | ((with_reducible refine gate_builtin (b := .append) (xs := #[.tmp 10, .tmp 14]) rfl ?_); at_builtin; refine app_code (w0 := w) g rfl (.tmp 10) (.tmp 14) rfl _ (m) _ _ _ rfl rfl hg0 BK.out (by omega) HO.out HB.out ?_; intro A10_ c10_ w10 hg h1 h2 h3 h4 h5 h6; clear BK HO HB hg h6; have BK := Aside0.mk h3; have HO := Aside0.mk h4; have HB := Aside0.mk h5; clear h3 h4 h5) | ((with_reducible refine gate_builtin (b := .append) (xs := #[.tmp 25, .tmp 28]) rfl ?_); at_builtin; refine app_code (w0 := w) g rfl (.tmp 25) (.tmp 28) rfl _ (m + 1) _ _ _ rfl (by first | rfl | (rw [World.size_setCell]; rfl)) hg0 BK.out (by omega) HO.out HB.out ?_; intro A25_ c25_ w25 hg h1 h2 h3 h4 h5 h6; clear BK HO HB hg h6; have BK := Aside0.mk h3; have HO := Aside0.mk h4; have HB := Aside0.mk h5; clear h3 h4 h5) | ((with_reducible refine gate_builtin (b := .append) (xs := #[.tmp 16, .tmp 20]) rfl ?_); at_builtin; refine app_code (w0 := w) g rfl (.tmp 16) (.tmp 20) rfl _ (m + 1) _ _ _ rfl (by first | rfl | (rw [World.size_setCell]; rfl)) hg0 BK.out (by omega) HO.out HB.out ?_; intro A16_ c16_ w16 hg h1 h2 h3 h4 h5 h6; clear BK HO HB hg h6; have BK := Aside0.mk h3; have HO := Aside0.mk h4; have HB := Aside0.mk h5; clear h3 h4 h5))
                  go_roundg g'
                  case measure => omega
                  case rel => exact ⟨m + 1, c + 1, _, by first | rfl | rw [hw] | (subst_vars; rfl), by omega, by omega, by omega, by omega, BK, HO, HB⟩
    · have hc' : decide ((c : Int) ≤ 126) = false := decide_eq_false (by omega)
      have HL : LB w wr g 300 := ⟨m, by omega, hg0, HB.out, v, BK.out, HO.out⟩
      clear HB BK HO hc0 hf0 hx0 hx1 hk hc hm
      go_wp2_with (go_at_call 42; refine (Put_calls2 w _ g _ _ _ _ HL (by decide) (by assumption)).mono ?_; rintro e W' ⟨rfl, hl⟩; clear HL; have HL := hl; clear hl)
      obtain ⟨m, hmb, _, hB, v, hbk, hR⟩ := HL
      have BK := Aside0.mk hbk
      have HO := Aside0.mk hR
      have HB := Aside0.mk hB
      clear hB hbk hR
      go_loopg [54] 100 (fun kq v54 w' => ∃ (m c : Nat) (v : Value), v54 = .int .i64 (c : Int) ∧ c + kq = 100 ∧ c ≤ 83 ∧ m ≤ 10000 + c ∧ Aside0 (w'.heap[g]? = some (.cells #[v] 62 (0, 0))) ∧ Aside0 ((anyK 3).R 77 w' w.heap.size (fun k => k ≠ g) v (List.replicate m ())) ∧ Aside0 (Below w.heap.size w w'))
      case atStart => exact ⟨m, 0, v, rfl, rfl, by omega, by omega, BK, HO, HB⟩
      case round =>
        clear BK HO HB hmb
        obtain ⟨m, c, v, rfl, hk, hx1, hmb, BK, HO, HB⟩ := hrel
        have hc0 : wr.cell? ⟨g, 0, none⟩ = some v := (blk_cell BK.out 0).trans rfl
        have hf0 := blk_frozen BK.out 0
        by_cases hc : c < 83
        · obtain ⟨g', rfl⟩ : ∃ g', gk = g' + 1 := ⟨gk - 1, by omega⟩
          have hc' : decide ((c : Int) < 83) = true := decide_eq_true (by omega)
          have hw : wrap64 ((c : Int) + 1) = ((c + 1 : Nat) : Int) := by unfold wrap64; omega
          go_wp2_with ((with_reducible refine gate_builtin (b := .append) (xs := #[.tmp 57, .tmp 63]) rfl ?_); at_builtin; refine app_code (w0 := w) g rfl (.tmp 57) (.tmp 63) rfl _ (m) _ _ _ rfl rfl hg0 BK.out (by omega) HO.out HB.out ?_; intro A57_ c57_ w57 hg h1 h2 h3 h4 h5 h6; clear BK HO HB hc0 hf0 hg h6; have BK := Aside0.mk h3; have HO := Aside0.mk h4; have HB := Aside0.mk h5; clear h3 h4 h5)
          go_roundg g'
          case measure => omega
          case rel => exact ⟨m + 1, c + 1, _, by first | rfl | rw [hw], by omega, by omega, by omega, BK, HO, HB⟩
        · have hc' : decide ((c : Int) < 83) = false := decide_eq_false (by omega)
          go_wp2
          go_loopg [66] 100 (fun kq v66 w' => ∃ (m c : Nat) (v : Value), v66 = .int .i64 (c : Int) ∧ c + kq = 100 ∧ c ≤ 86 ∧ m ≤ 20100 + c ∧ Aside0 (w'.heap[g]? = some (.cells #[v] 62 (0, 0))) ∧ Aside0 ((anyK 3).R 77 w' w.heap.size (fun k => k ≠ g) v (List.replicate m ())) ∧ Aside0 (Below w.heap.size w w'))
          case atStart => exact ⟨m, 0, v, rfl, rfl, by omega, by omega, BK, HO, HB⟩
          case round =>
            clear BK HO HB hmb
            obtain ⟨m, c, v, rfl, hk, hx1, hmb, BK, HO, HB⟩ := hrel
            have hc0 : wr.cell? ⟨g, 0, none⟩ = some v := (blk_cell BK.out 0).trans rfl
            have hf0 := blk_frozen BK.out 0
            by_cases hc : c < 86
            · obtain ⟨g', rfl⟩ : ∃ g', gk = g' + 1 := ⟨gk - 1, by omega⟩
              have hc' : decide ((c : Int) < 86) = true := decide_eq_true (by omega)
              have hw : wrap64 ((c : Int) + 1) = ((c + 1 : Nat) : Int) := by unfold wrap64; omega
              go_wp2_with ((with_reducible refine gate_builtin (b := .append) (xs := #[.tmp 69, .tmp 75]) rfl ?_); at_builtin; refine app_code (w0 := w) g rfl (.tmp 69) (.tmp 75) rfl _ (m) _ _ _ rfl rfl hg0 BK.out (by omega) HO.out HB.out ?_; intro A69_ c69_ w69 hg h1 h2 h3 h4 h5 h6; clear BK HO HB hc0 hf0 hg h6; have BK := Aside0.mk h3; have HO := Aside0.mk h4; have HB := Aside0.mk h5; clear h3 h4 h5)
              go_roundg g'
              case measure => omega
              case rel => exact ⟨m + 1, c + 1, _, by first | rfl | rw [hw], by omega, by omega, by omega, BK, HO, HB⟩
            · have hc' : decide ((c : Int) < 86) = false := decide_eq_false (by omega)
              go_wp2
              go_ret
              obtain ⟨Ar, cr, hv⟩ := Kd.R_slice HO.out
              exact ⟨Ar, _, cr, congrArg Ending.returned hv, HB.out⟩
end Go.Proofs.Yteclbjjdhckgoaa.Tb
