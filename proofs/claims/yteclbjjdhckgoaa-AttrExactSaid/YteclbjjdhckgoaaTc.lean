/- The folding's table, told weakly. -/
import Derived.Test.YteclbjjdhckgoaaTb
import Derived.Test.YteclbjjdhckgoaaWRepsOne
namespace Go.Proofs.Yteclbjjdhckgoaa.Tb
open Go.Proofs.YteclbjjdhckgoaaW.PrintWords Go.Proofs.YteclbjjdhckgoaaW.PrintLast Go.Proofs.YteclbjjdhckgoaaW.PrintMore
open Go.RowKit Go.Proofs
set_option linter.unusedVariables false
set_option linter.unusedSimpArgs false
/-- How many scalars a string has. -/
def runesN (s : ByteArray) : Nat → Nat → Nat
  | 0, _ => 0
  | k + 1, pos => if pos < s.size then runesN s k (pos + (Utf8.decode s pos).2) + 1 else 0
theorem runesN_eq (s : ByteArray) : ∀ k pos, (runesF s k pos).length = runesN s k pos
  | 0, pos => rfl
  | k + 1, pos => by
    rw [runesF, runesN]
    split
    · rw [List.length_cons, runesN_eq s k]
    · rfl
theorem runes_len (s : ByteArray) (n : Nat) (w : World) (h : (decide (s.size ≤ 100000) && runesN s s.size 0 == n) = true) :
    Calls Try.prog 41 #[.string s] w fun e w' => ∃ (v0_ : Value) (r : List Int), e = .returned (v0_) ∧ Kd.R (Kd.int .i64) 3 w' w.heap.size (fun _ => True) v0_ r ∧ r.length = n ∧ Below w.heap.size w w' := by
  obtain ⟨h1, h2⟩ := Bool.and_eq_true_iff.1 h
  refine (runes_calls s (runesF s s.size 0) w (by unfold runesO; rw [if_pos (of_decide_eq_true h1)])).mono ?_
  rintro e w' ⟨v, rfl, hr, hb⟩
  exact ⟨v, _, rfl, hr, by rw [runesN_eq]; exact beq_iff_eq.1 h2, hb⟩
def Folds_T7 : Bool × List (List Nat × List Nat) := (true, [([], []), ([], []), ([], []), ([1, 2], [1, 2]), ([3], [3]), ([], []), ([], []), ([5, 6], [5, 6]), ([7], [7]), ([8], [8]), ([4, 9], [4, 9]), ([10], [10]), ([0, 11], [0, 11]), ([12, 12, 0, 1, 2, 3, 4, 5, 6, 7, 8, 9, 10, 11, 12], [0, 12])])
def Folds_B7 : List Nat := [0, 0, 0, 6, 14, 0, 0, 96, 224, 480, 1022, 2046, 4095, 8191]
theorem Folds_tab7 : rtab .any (opsOf Try.f34 7) = Folds_T7 := by kernel_rfl
theorem Folds_bits7 : waitsOk Folds_T7.2 Folds_B7 = true := by kernel_rfl
set_option maxRecDepth 100000 in
set_option maxHeartbeats 8000000 in
theorem Folds_calls (w : World) : Calls Try.prog 34 #[] w fun e w' => ∃ (A : Option Addr) (n c : Nat), e = .returned (.slice A n c) ∧ Below w.heap.size w w' := by
  have HB := Aside0.mk (Below.refl w.heap.size w)
  go_enter Try.func34, Try.ntmps34
  simp only [List.append_eq, List.cons_append, List.nil_append]
  go_wp2_with (first | ((with_reducible refine gate_dst (N := 44) rfl ?_); refine row_any (w0 := w) w.heap.size 73 2 19 rfl (N := 44) rfl ⟨_, by (go_simp; first | rfl | exact ⟨rfl, rfl⟩), rfl, rfl⟩ (by decide) HB.out (below_size HB.out) ?_; clear HB; intro v_ w_ ho_ hb_; have HB := Aside0.mk hb_; have HO := Aside0.mk ho_; clear hb_ ho_) | ((with_reducible refine gate_bs (t := 25) rfl ?_); refine lit_any (w0 := w) w.heap.size 3 rfl ⟨_, _, by go_simp; exact ⟨rfl, rfl⟩⟩ HB.out (below_size HB.out) ?_; clear HB; intro b_ n_ w_ hb_; have HB := Aside0.mk hb_; clear hb_) | ((with_reducible refine gate_dst (N := 45) rfl ?_); refine goesL_ (some 45) rfl rfl Try.func41 (by kernel_rfl) rfl #[.string _] rfl (by (try simp only [List.map_toArray, List.map_cons, List.map_nil]); first | done | rfl) ?_; (refine (runes_len _ 216 _ ?hl).mono ?_); (case hl => kernel_rfl); rintro e w_ ⟨va, ta, rfl, ho0, htl, hb⟩; refine ⟨_, rfl, ?_⟩; obtain ⟨Aa, ca, rfl⟩ := Kd.R_slice ho0; have HA := Aside0.mk (Kd.R_lower ho0 (below_size HB.out)); have HAl := htl; have n0_ := Aside0.mk (Kd.R_below HO.out hb); have n1_ := Aside0.mk (below_step HB.out hb); clear HO HB; have HO := n0_; have HB := n1_; clear n0_ n1_ ho0 hb htl) | ((with_reducible refine gate_dst (N := 46) rfl ?_); refine goesL_ (some 46) rfl rfl Try.func41 (by kernel_rfl) rfl #[.string _] rfl (by (try simp only [List.map_toArray, List.map_cons, List.map_nil]); first | done | rfl) ?_; (refine (runes_len _ 216 _ ?hl).mono ?_); (case hl => kernel_rfl); rintro e w_ ⟨vb, tb, rfl, ho0, htl, hb⟩; refine ⟨_, rfl, ?_⟩; obtain ⟨Ab, cb, rfl⟩ := Kd.R_slice ho0; have HB2 := Aside0.mk (Kd.R_lower ho0 (below_size HB.out)); have HBl := htl; have n0_ := Aside0.mk (Kd.R_below HO.out hb); have n1_ := Aside0.mk (below_step HB.out hb); have n2_ := Aside0.mk (Kd.R_below HA.out hb); clear HO HB HA; have HO := n0_; have HB := n1_; have HA := n2_; clear n0_ n1_ n2_ ho0 hb htl))
  go_loopg [1, 49] 300 (fun kq v1 v49 w' => ∃ (n : Nat) (x : Int), v49 = .int .i64 x ∧ x + kq = 300 ∧ 0 ≤ x ∧ x ≤ 216 ∧ n ≤ 1000 + x ∧ Aside0 ((anyK 2).R 73 w' w.heap.size (fun _ => True) v1 (List.replicate n ())) ∧ Aside0 (Kd.R (Kd.int .i64) 3 w' w.heap.size (fun _ => True) (.slice Aa ta.length ca) ta) ∧ Aside0 (Kd.R (Kd.int .i64) 3 w' w.heap.size (fun _ => True) (.slice Ab tb.length cb) tb) ∧ Aside0 (Below w.heap.size w w'))
  case atStart => exact ⟨19, 0, rfl, rfl, by omega, by omega, by omega, HO, HA, HB2, HB⟩
  case round =>
    clear HO HA HB2 HB
    obtain ⟨n, x, rfl, hk, hx0, hi, hn, HO, HA, HB2, HB⟩ := hrel
    by_cases hc : x < 216
    · obtain ⟨g', rfl⟩ : ∃ g', gk = g' + 1 := ⟨gk - 1, by omega⟩
      have hc' : decide (x < (ta.length : Int)) = true := decide_eq_true (by omega)
      obtain ⟨ad1, e1, hx1⟩ := Kd.at_int (Kd.R_reads' HA.out).2.2 x (by omega) (by omega)
      cases e1
      obtain ⟨ad2, e2, hx2⟩ := Kd.at_int (Kd.R_reads' HB2.out).2.2 x (by omega) (by omega)
      cases e2
      have hw : wrap64 (x + 1) = x + 1 := by unfold wrap64; omega
      have p1 : (0 ≤ x) = True := eq_true (by omega)
      have q1 : (x < (ta.length : Int)) = True := eq_true (by omega)
      have q2 : (x < (tb.length : Int)) = True := eq_true (by omega)
      try go_wp2
      have n0_ := Aside0.mk (Kd.R_drew HO.out)
      have n1_ := Aside0.mk (Kd.R_drew HA.out)
      have n2_ := Aside0.mk (Kd.R_drew HB2.out)
      have n3_ := Aside0.mk (below_drew1 HB.out)
      clear HO HA HB2 HB
      have HO := n0_
      have HA := n1_
      have HB2 := n2_
      have HB := n3_
      clear n0_ n1_ n2_ n3_
      refine start_ (n := 14) (S := fun w' => w'.cell? (ad1.add (x).toNat) = some (.int .i64 (rd ta x)) ∧ w'.cell? (ad2.add (x).toNat) = some (.int .i64 (rd tb x))) (ds := [11, 12]) #[false, false, false, false, false, false, false, false, false, false, false, false, false, false] (by kernel_rfl) rfl rfl ⟨hx1, hx2⟩ (fun hHeld => ?_); refine with_tabW Folds_tab7 Folds_bits7 (fun HT_ HW_ => ?_)
      generalize wr.drew = w70 at HO HA HB2 HB hx1 hx2 hHeld ⊢
      refine pure_ (i := 0) (N := some 52) (v := ?_) (a' := ?_) #[true, false, false, false, false, false, false, false, false, false, false, false, false, false] rfl rfl (any_of HT_.out (by kernel_rfl)) (fun _ _ _ h => h) (Or.inl ⟨by rfl, ?_⟩) ?_ ?_
      rotate_left
      · intro w'
        go_simp
        with_reducible rfl
      rotate_left
      · simp only [Act.put, List.setIfInBounds_toArray, List.set_cons_zero, List.set_cons_succ, i64_w, i32_w]
        rfl
      refine pure_ (i := 1) (N := some 53) (v := ?_) (a' := ?_) #[true, true, false, false, false, false, false, false, false, false, false, false, false, false] rfl rfl (any_of HT_.out (by kernel_rfl)) (fun _ _ _ h => h) (Or.inl ⟨by rfl, ?_⟩) ?_ ?_
      rotate_left
      · intro w'
        go_simp
        with_reducible rfl
      rotate_left
      · simp only [Act.put, List.setIfInBounds_toArray, List.set_cons_zero, List.set_cons_succ, i64_w, i32_w]
        rfl
      refine pure_ (i := 2) (N := some 54) (v := ?_) (a' := ?_) #[true, true, true, false, false, false, false, false, false, false, false, false, false, false] rfl rfl (any_of HT_.out (by kernel_rfl)) (fun _ _ _ h => h) (Or.inl ⟨by rfl, ?_⟩) ?_ ?_
      rotate_left
      · intro w'
        go_simp
        with_reducible rfl
      rotate_left
      · simp only [Act.put, List.setIfInBounds_toArray, List.set_cons_zero, List.set_cons_succ, i64_w, i32_w]
        rfl
      refine pure_ (i := 3) (N := some 55) (v := ?_) (a' := ?_) #[true, true, true, true, false, false, false, false, false, false, false, false, false, false] rfl rfl (any_of HT_.out (by kernel_rfl)) (fun _ _ _ h => h) (Or.inl ⟨by rfl, ?_⟩) ?_ ?_
      rotate_left
      · intro w'
        go_simp
        with_reducible rfl
      rotate_left
      · simp only [Act.put, List.setIfInBounds_toArray, List.set_cons_zero, List.set_cons_succ, i64_w, i32_w]
        rfl
      refine pure_ (i := 5) (N := some 57) (v := ?_) (a' := ?_) #[true, true, true, true, false, true, false, false, false, false, false, false, false, false] rfl rfl (any_of HT_.out (by kernel_rfl)) (fun _ _ _ h => h) (Or.inl ⟨by rfl, ?_⟩) ?_ ?_
      rotate_left
      · intro w'
        go_simp
        with_reducible rfl
      rotate_left
      · simp only [Act.put, List.setIfInBounds_toArray, List.set_cons_zero, List.set_cons_succ, i64_w, i32_w]
        rfl
      refine pure_ (i := 6) (N := some 58) (v := ?_) (a' := ?_) #[true, true, true, true, false, true, true, false, false, false, false, false, false, false] rfl rfl (any_of HT_.out (by kernel_rfl)) (fun _ _ _ h => h) (Or.inl ⟨by rfl, ?_⟩) ?_ ?_
      rotate_left
      · intro w'
        go_simp
        with_reducible rfl
      rotate_left
      · simp only [Act.put, List.setIfInBounds_toArray, List.set_cons_zero, List.set_cons_succ, i64_w, i32_w]
        rfl
      refine pure_ (i := 7) (N := some 59) (v := ?_) (a' := ?_) #[true, true, true, true, false, true, true, true, false, false, false, false, false, false] rfl rfl (any_of HT_.out (by kernel_rfl)) (fun _ _ _ h => h) (Or.inl ⟨by rfl, ?_⟩) ?_ ?_
      rotate_left
      · intro w'
        go_simp
        with_reducible rfl
      rotate_left
      · simp only [Act.put, List.setIfInBounds_toArray, List.set_cons_zero, List.set_cons_succ, i64_w, i32_w]
        rfl
      refine take_ (i := 4) (N := some 56) (v := ?_) (a' := ?_) #[true, true, true, true, true, true, true, true, false, false, false, false, false, false] rfl rfl (take_ofW HT_.out HW_.out (by kernel_rfl)) (fun _ _ _ h => h) (Or.inl ⟨by rfl, ?_⟩) hHeld ?_ ?_
      rotate_left
      · rintro w' ⟨s0, s1⟩
        go_simp
        with_reducible rfl
      rotate_left
      · simp only [Act.put, List.setIfInBounds_toArray, List.set_cons_zero, List.set_cons_succ, i64_w, i32_w]
        rfl
      refine take_ (i := 8) (N := some 60) (v := ?_) (a' := ?_) #[true, true, true, true, true, true, true, true, true, false, false, false, false, false] rfl rfl (take_ofW HT_.out HW_.out (by kernel_rfl)) (fun _ _ _ h => h) (Or.inl ⟨by rfl, ?_⟩) hHeld ?_ ?_
      rotate_left
      · rintro w' ⟨s0, s1⟩
        go_simp
        with_reducible rfl
      rotate_left
      · simp only [Act.put, List.setIfInBounds_toArray, List.set_cons_zero, List.set_cons_succ, i64_w, i32_w]
        rfl
      refine one_ (i := 9) (N := some 61) #[true, true, true, true, true, true, true, true, true, true, false, false, false, false] rfl rfl (one_of HT_.out (by kernel_rfl)) (by decide) (fun K hK => ?_)
      refine Kd.R_lit_step (Kd.int .i64) _ 3 ?hg (N := 61) ?hd (xs := ([rd tb x] : List Int)) (inner := [.int .i64 (rd tb x)]) (ok := fun _ => True) (okp := fun _ => True) ?hr ?hp (fun _ hk => hk) trivial (Below.refl _ _) (Nat.le_refl _) (by simp) ?_; (case hd => rfl); (case hg => rfl); (case hr => first | (go_simp; done) | (go_simp; rfl)); (case hp => exact (Reps.one (show Kd.M (Kd.int .i64) _ _ _ (rd tb x) [.int .i64 (rd tb x)] from rfl) (Reps.none _ _)))
      intro v523 w72 ho73 hb hg_ hnew_
      have HS0_ := (hb.cell (World.block_lt_of_cell? _ _ (hHeld.1))).trans (hHeld.1)
      have HS1_ := (hb.cell (World.block_lt_of_cell? _ _ (hHeld.2))).trans (hHeld.2)
      clear hg_ hnew_
      obtain ⟨A_, c_, rfl, _, _⟩ := Kd.R_reads ho73
      have n0_ := Aside0.mk (Kd.R_below HO.out hb)
      have n1_ := Aside0.mk (Kd.R_below HA.out hb)
      have n2_ := Aside0.mk (Kd.R_below HB2.out hb)
      have n4_ := Aside0.mk (below_step HB.out hb)
      clear HO HA HB2 HB
      have HO := n0_
      have HA := n1_
      have HB2 := n2_
      have HB := n4_
      clear n0_ n1_ n2_ n4_
      clear hb ho73
      refine hK.out _ _ ⟨HS0_, HS1_⟩ (fun hHeld => ?_)
      clear hK K
      refine norm_ (a' := ?_) ?_ ?_
      rotate_left
      · show Act.put _ (some 61) _ = _
        simp only [Act.put, List.setIfInBounds_toArray, List.set_cons_zero, List.set_cons_succ, i64_w, i32_w]
        rfl
      refine pure_ (i := 10) (N := some 62) (v := ?_) (a' := ?_) #[true, true, true, true, true, true, true, true, true, true, true, false, false, false] rfl rfl (any_of HT_.out (by kernel_rfl)) (fun _ _ _ h => h) (Or.inl ⟨by rfl, ?_⟩) ?_ ?_
      rotate_left
      · intro w'
        go_simp
        with_reducible rfl
      rotate_left
      · simp only [Act.put, List.setIfInBounds_toArray, List.set_cons_zero, List.set_cons_succ, i64_w, i32_w]
        rfl
      refine last_ (i := 11) (N := some 63) #[true, true, true, true, true, true, true, true, true, true, true, true, false, false] rfl rfl (one_of HT_.out (by kernel_rfl)) (by decide) (fun K hK => ?_)
      refine value_ (w1 := ?_) (v := ?_) (by rfl) rfl ?_ ?_
      rotate_left 2
      · go_simp
        constructor
        · rfl
        · rfl
      refine hK.out _ _ ?_
      clear hK K
      refine norm_ (a' := ?_) ?_ ?_
      rotate_left
      · show Act.put _ (some 63) _ = _
        simp only [Act.put, List.setIfInBounds_toArray, List.set_cons_zero, List.set_cons_succ, i64_w, i32_w]
        rfl
      refine last_ (i := 12) (N := some 64) #[true, true, true, true, true, true, true, true, true, true, true, true, true, false] rfl rfl (one_of HT_.out (by kernel_rfl)) (by decide) (fun K hK => ?_)
      refine Kd.R_append_step (anyK 2) (w0 := w) w.heap.size (by rfl) (.tmp 52) (.tmp 63) 55 73 (.agg #[(.int .i64 0), (.slice none 0 0)]) 32 rfl Try.underlying55 i73 rfl (by decide) (by decide) u1 (List.replicate n ()) () [.int .i64 (rd ta x), .slice A_ ([rd tb x] : List Int).length c_] (fun _ => True) (fun _ => False) rfl rfl ⟨rfl, fun u hu => List.all_eq_true.1 (show ([Value.int .i64 (rd ta x), .slice A_ ([rd tb x] : List Int).length c_].all Value.oneCell') = true from rfl) u hu⟩ (fun _ hk => hk.elim) (fun _ _ => trivial) HO.out HB.out (below_size HB.out) (by rw [List.length_replicate]; omega) ?_
      intro v526 w75 ho hb hg hat
      have n0_ := Aside0.mk (Kd.R_over' HA.out (Kd.R_typed HO.out) (by decide) hg)
      have n1_ := Aside0.mk (Kd.R_over' HB2.out (Kd.R_typed HO.out) (by decide) hg)
      have n2_ := Aside0.mk hb
      have n3_ := Aside0.mk ho
      clear HA HB2 HB HO
      have HA := n0_
      have HB2 := n1_
      have HB := n2_
      have HO := n3_
      clear n0_ n1_ n2_ n3_
      clear ho hb hg hat
      refine hK.out _ _ ?_
      clear hK K
      refine norm_ (a' := ?_) ?_ ?_
      rotate_left
      · show Act.put _ (some 64) _ = _
        simp only [Act.put, List.setIfInBounds_toArray, List.set_cons_zero, List.set_cons_succ, i64_w, i32_w]
        rfl
      refine pure_ (i := 13) (N := some 1) (v := ?_) (a' := ?_) #[true, true, true, true, true, true, true, true, true, true, true, true, true, true] rfl rfl (any_of HT_.out (by kernel_rfl)) (fun _ _ _ h => h) (Or.inl ⟨by rfl, ?_⟩) ?_ ?_
      rotate_left
      · intro w'
        go_simp
        with_reducible rfl
      rotate_left
      · simp only [Act.put, List.setIfInBounds_toArray, List.set_cons_zero, List.set_cons_succ, i64_w, i32_w]
        rfl
      refine done_ (done_of HT_.out (by kernel_rfl)) ?_
      try go_wp2
      go_roundg g'
      case measure => omega
      case rel => exact ⟨n + 1, x + 1, by first | rfl | rw [hw], by omega, by omega, by omega, by omega, ⟨by rw [List.replicate_succ']; exact HO.out⟩, HA, HB2, HB⟩
    · have hc' : decide (x < (ta.length : Int)) = false := decide_eq_false (by omega)
      go_wp2
      go_loopg [1, 5] 100 (fun kq v1 v5 w' => ∃ (n : Nat) (c : Nat), v5 = .int .i64 (c : Int) ∧ c + kq = 65413 ∧ 65313 ≤ c ∧ c ≤ 65339 ∧ n ≤ 70000 + c ∧ Aside0 ((anyK 2).R 73 w' w.heap.size (fun _ => True) v1 (List.replicate n ())) ∧ Aside0 (Below w.heap.size w w'))
      case atStart => exact ⟨n, 65313, rfl, rfl, by omega, by omega, by omega, HO, HB⟩
      case round =>
        clear HB HO HA HB2 hc' hc hk hn hx0 hi
        obtain ⟨n, c, rfl, hk, hc0, hc1, hn, HO, HB⟩ := hrel
        by_cases hc : c ≤ 65338
        · obtain ⟨g', rfl⟩ : ∃ g', gk = g' + 1 := ⟨gk - 1, by omega⟩
          have hc' : decide ((c : Int) ≤ 65338) = true := decide_eq_true (by omega)
          have hw : wrap64 ((c : Int) + 1) = ((c + 1 : Nat) : Int) := by unfold wrap64; omega
          go_wp2_with (first | ((with_reducible refine gate_dst (N := 74) rfl ?_); refine lit_one (w0 := w) w.heap.size 3 rfl ⟨_, _, by go_simp; exact ⟨rfl, rfl⟩⟩ HB.out (below_size HB.out) ?_; intro b_ n_ w_ hc_ hb_; have HO1 := Aside0.mk (Kd.R_below HO.out hc_); clear HB HO hc_; have HB := Aside0.mk hb_; clear hb_) | ((with_reducible refine gate_builtin (b := .append) (xs := #[.tmp 70, .tmp 76]) rfl ?_); at_builtin; refine Kd.R_append (anyK 2) (w0 := w) w.heap.size rfl (.tmp 70) (.tmp 76) 55 73 (.agg #[(.int .i64 0), (.slice none 0 0)]) 32 rfl Try.underlying55 i73 rfl (by decide) (by decide) u1 (List.replicate n ()) () [.int .i64 (c : Int), .slice (some ⟨b_, 0, none⟩) n_ n_] (fun _ => True) (fun _ => False) rfl rfl ⟨rfl, fun u hu => List.all_eq_true.1 (show ([Value.int .i64 (c : Int), .slice (some ⟨b_, 0, none⟩) n_ n_].all Value.oneCell') = true from rfl) u hu⟩ (fun _ hk => hk.elim) (fun _ _ => trivial) HO1.out HB.out (below_size HB.out) (by rw [List.length_replicate]; omega) ?_; intro v1 w1 ho hb hg hat; clear hg hat))
          go_roundg g'
          case measure => omega
          case rel => exact ⟨n + 1, c + 1, by rfl, by omega, by omega, by omega, by omega, ⟨by rw [List.replicate_succ']; exact ho⟩, ⟨hb⟩⟩
        · have hc' : decide ((c : Int) ≤ 65338) = false := decide_eq_false (by omega)
          go_wp2
          go_ret
          obtain ⟨Ar, cr, hv⟩ := Kd.R_slice HO.out
          exact ⟨Ar, _, cr, congrArg Ending.returned hv, HB.out⟩
end Go.Proofs.Yteclbjjdhckgoaa.Tb
