/- The contracts of packed, and of Pack where the table is not right. -/
import Derived.Test.YtaniolefeieliaaVPc
namespace Go.Proofs.Ytaniolefeieliaa.Pk
open Go.RowKit Go.Proofs.YtaniolefeieliaaW.PrintWords Go.Proofs.YtaniolefeieliaaW.PrintLast Go.Proofs.YtaniolefeieliaaW.PrintMore
open Go.Proofs Go.Proofs.Ytaniolefeieliaa.Mp Go.Proofs.Ytaniolefeieliaa.Base
set_option linter.unusedVariables false
set_option linter.unusedSimpArgs false
set_option linter.unnecessarySimpa false
def findF (p : Int → Bool) : List Int → Nat → Int
  | [], _ => -1
  | x :: r, i => if p x = true then (i : Int) else findF p r (i + 1)
theorem findF_neg (p : Int → Bool) : ∀ (xs : List Int) (i : Nat), (0 ≤ findF p xs i) ↔ xs.any p = true
  | [], i => by simp [findF]
  | x :: r, i => by
    rw [findF, List.any_cons]
    by_cases h : p x = true
    · rw [if_pos h, h]; simp
    · rw [if_neg h, findF_neg p r (i + 1)]
      simp [h]
def wrongB (n : Int) : Bool := decide (n < 0) || decide (n > 65535)
set_option maxHeartbeats 8000000 in
set_option maxRecDepth 100000 in
theorem pack_err (k : Nat) (A0 : Option Addr) (c0 : Nat) (l : List S44) (er : Int) (her : er ≠ 0) (w : World) (hr0 : Kd.C k44 w A0 l.length l) (hc0 : l.length ≤ c0) (hck : ranges_Check.f k l = some er) :
    Calls Try.prog 7 #[.slice A0 l.length c0] w fun e w' => e = .returned (.tuple #[.agg #[.slice none 0 0, .slice none 0 0], .int .i64 1]) ∧ Below w.heap.size w w' := by
  have HR0 := Aside0.mk hr0
  have HC0 := Aside0.mk hc0
  have CK := Aside0.mk hck
  clear hr0 hc0 hck
  have d0 : (er == 0) = false := beq_eq_false_iff_ne.mpr her
  have d1 : (er != 0) = true := bne_iff_ne.mpr her
  go_enter Try.func7, Try.ntmps7
  go_wp2_with (go_at_call 18; (with_reducible refine (ranges_Check.calls k _ _ l er _ ?side1 ?side2 CK.out).mono ?_); (case side1 => exact Kd.C_alloc HR0.out _); (case side2 => exact HC0.out); rintro e w2 ⟨rfl, hb⟩; have HBr := Aside0.mk (show Below w.heap.size w w2 from below_step (below_alloc (Below.refl _ _) _) hb); have GR := Aside0.mk (show w2.heap[w.heap.size]? = some (.cells #[.slice none 0 0, .slice none 0 0] 25 (0, 0)) from blk_below (blk_new w _) hb); have g0 := (blk_cell GR.out 0).trans (show _ = some (.slice none 0 0) from rfl); have g1 := (blk_cell GR.out 1).trans (show _ = some (.slice none 0 0) from rfl); have f0 := blk_frozen GR.out 0; have f1 := blk_frozen GR.out 1; clear hb)
  (try simp only [Exit.inBlock, Exit.then])
  refine bodyPost_ret (results_ct rfl _ _ w.heap.size 25 #[.slice none 0 0, .slice none 0 0] (0, 0) _ rfl (blk_put (blk_put GR.out 0 _ rfl) 1 _ rfl) Try.underlying25 rfl (by kernel_rfl)) rfl ?_
  exact ⟨rfl, below_set (below_set HBr.out (Nat.le_refl _)) (Nat.le_refl _)⟩
set_option maxHeartbeats 8000000 in
set_option maxRecDepth 100000 in
theorem index25 (W : World) (A : Option Addr) (c : Nat) (xs : List Int) (hr : Kd.C (Kd.int .i64) W A xs.length xs) : Calls Try.prog 28 #[.slice A xs.length c, .func (.func 25) #[] #[]] W fun e w' => e = .returned (.int .i64 (findF wrongB xs 0)) ∧ w' = W := by
  have HR := Aside0.mk hr
  have hlen := hr.2.1
  obtain ⟨n, hn⟩ : ∃ n, n = xs.length := ⟨_, rfl⟩
  rw [← hn] at hlen ⊢
  have HN := Aside0.mk hn
  clear hr hn
  go_enter Try.func28, Try.ntmps28
  go_wp2
  go_loopg [8] n (fun gk v8 wr => ∃ (i : Nat), v8 = .int .i64 i ∧ i + gk = n ∧ Aside0 (findF wrongB (xs.drop i) i = findF wrongB xs 0 ∧ wr = W))
  case atStart => exact ⟨0, rfl, Nat.zero_add _, ⟨rfl, rfl⟩⟩
  case round =>
    obtain ⟨i, rfl, hig, HF⟩ := hrel
    obtain ⟨hf, rfl⟩ := HF.out
    clear HF
    cases gk with
    | zero =>
      have d : decide ((i : Int) < (n : Int)) = false := decide_eq_false (by omega)
      have d2 : decide (i < n) = false := decide_eq_false (by omega)
      have d3 : ¬ i < n := by omega
      rw [List.drop_eq_nil_of_le (by have := HN.out; omega)] at hf
      have HF := Aside0.mk hf
      clear hf hig
      go_wp2
      go_ret
      exact ⟨by rw [← HF.out]; rfl, rfl⟩
    | succ gk =>
      have hil : i < n := by omega
      have hil2 : i < xs.length := by have := HN.out; omega
      obtain ⟨ad, eA, hx0⟩ := Kd.at_int HR.out (i : Int) (by omega) (by omega)
      subst eA
      have hrd : rd xs (i : Int) = xs[i] := by simp [rd, List.getD_eq_getElem?_getD, List.getElem?_eq_getElem hil2]
      simp only [Int.toNat_natCast] at hx0
      obtain ⟨y, hy⟩ : ∃ y, y = rd xs (i : Int) := ⟨_, rfl⟩
      rw [← hy] at hx0
      rw [List.drop_eq_getElem_cons hil2, findF, ← hrd, ← hy] at hf
      have d : decide ((i : Int) < (n : Int)) = true := decide_eq_true (by omega)
      have p : (0 ≤ (i : Int)) = True := eq_true (by omega)
      have q : ((i : Int) < (n : Int)) = True := eq_true (by omega)
      have hwi : IntKind.i64.wrap ((i : Int) + 1) = ((i + 1 : Nat) : Int) := by rw [IntKind.wrap_i64]; omega
      have HF := Aside0.mk hf
      have HI := Aside0.mk hig
      clear hf hig hrd hy hil2
      by_cases h0 : y < 0
      · have e0 : decide (y < 0) = true := decide_eq_true h0
        go_wp2
        go_ret
        exact ⟨by rw [← HF.out, if_pos (by unfold wrongB; rw [e0]; rfl)]; rfl, rfl⟩
      · have e0 : decide (y < 0) = false := decide_eq_false h0
        by_cases h1 : y > 65535
        · have e1 : decide (y > 65535) = true := decide_eq_true h1
          have e2 : decide (65535 < y) = true := decide_eq_true h1
          go_wp2
          go_ret
          exact ⟨by rw [← HF.out, if_pos (by unfold wrongB; rw [e0, e1]; rfl)]; rfl, rfl⟩
        · have e1 : decide (y > 65535) = false := decide_eq_false h1
          have e2 : decide (65535 < y) = false := decide_eq_false h1
          have HW := Aside0.mk (show ¬ wrongB y = true by unfold wrongB; rw [e0, e1]; decide)
          go_wp2
          go_roundg gk
          case measure => omega
          case rel => exact ⟨i + 1, rfl, by have := HI.out; omega, ⟨by have := HF.out; rwa [if_neg HW.out] at this, rfl⟩⟩
def badB (m : Int) (n : Int) : Bool := decide (n < 0) || decide (n ≥ m)
set_option maxHeartbeats 8000000 in
set_option maxRecDepth 100000 in
theorem index27 (W : World) (A : Option Addr) (c : Nat) (xs : List Int) (hr : Kd.C (Kd.int .i64) W A xs.length xs) (gs : Nat) (A1 : Option Addr) (n1 c1 : Nat) (v0 : Value) (hn1 : n1 ≤ 9223372036854775807) (hs : W.heap[gs]? = some (.cells #[v0, .slice A1 n1 c1] 25 (0, 0))) :
    Calls Try.prog 28 #[.slice A xs.length c, .func (.func 27) #[] #[.pointer (some ⟨gs, 0, none⟩)]] W fun e w' => e = .returned (.int .i64 (findF (badB ((n1 / 256 : Nat) : Int)) xs 0)) ∧ w' = W := by
  have HR := Aside0.mk hr
  have hlen := hr.2.1
  have x1 := (blk_cell hs 1).trans (show _ = some (.slice A1 n1 c1) from rfl)
  obtain ⟨n, hn⟩ : ∃ n, n = xs.length := ⟨_, rfl⟩
  rw [← hn] at hlen ⊢
  have HN := Aside0.mk hn
  obtain ⟨bm, hbm⟩ : ∃ b : Int, b = ((n1 / 256 : Nat) : Int) := ⟨_, rfl⟩
  rw [← hbm]
  have HM := Aside0.mk hbm
  have hwq : wrap64 ((n1 : Int) / 256) = bm := by unfold wrap64; omega
  have hwq2 : IntKind.i64.wrap ((n1 : Int) / 256) = bm := by rw [IntKind.wrap_i64]; omega
  clear hr hn hs hbm
  go_enter Try.func28, Try.ntmps28
  go_wp2
  go_loopg [8] n (fun gk v8 wr => ∃ (i : Nat), v8 = .int .i64 i ∧ i + gk = n ∧ Aside0 (findF (badB bm) (xs.drop i) i = findF (badB bm) xs 0 ∧ wr = W))
  case atStart => exact ⟨0, rfl, Nat.zero_add _, ⟨rfl, rfl⟩⟩
  case round =>
    obtain ⟨i, rfl, hig, HF⟩ := hrel
    obtain ⟨hf, rfl⟩ := HF.out
    clear HF
    cases gk with
    | zero =>
      have d : decide ((i : Int) < (n : Int)) = false := decide_eq_false (by omega)
      have d2 : decide (i < n) = false := decide_eq_false (by omega)
      have d3 : ¬ i < n := by omega
      rw [List.drop_eq_nil_of_le (by have := HN.out; omega)] at hf
      have HF := Aside0.mk hf
      clear hf hig
      go_wp2
      go_ret
      exact ⟨by rw [← HF.out]; rfl, rfl⟩
    | succ gk =>
      have hil : i < n := by omega
      have hil2 : i < xs.length := by have := HN.out; omega
      obtain ⟨ad, eA, hx0⟩ := Kd.at_int HR.out (i : Int) (by omega) (by omega)
      subst eA
      have hrd : rd xs (i : Int) = xs[i] := by simp [rd, List.getD_eq_getElem?_getD, List.getElem?_eq_getElem hil2]
      simp only [Int.toNat_natCast] at hx0
      obtain ⟨y, hy⟩ : ∃ y, y = rd xs (i : Int) := ⟨_, rfl⟩
      rw [← hy] at hx0
      rw [List.drop_eq_getElem_cons hil2, findF, ← hrd, ← hy] at hf
      have d : decide ((i : Int) < (n : Int)) = true := decide_eq_true (by omega)
      have p : (0 ≤ (i : Int)) = True := eq_true (by omega)
      have q : ((i : Int) < (n : Int)) = True := eq_true (by omega)
      have hwi : IntKind.i64.wrap ((i : Int) + 1) = ((i + 1 : Nat) : Int) := by rw [IntKind.wrap_i64]; omega
      have HF := Aside0.mk hf
      have HI := Aside0.mk hig
      clear hf hig hrd hy hil2
      by_cases h0 : y < 0
      · have e0 : decide (y < 0) = true := decide_eq_true h0
        go_wp2
        go_ret
        exact ⟨by rw [← HF.out, if_pos (by unfold badB; rw [e0]; rfl)]; rfl, rfl⟩
      · have e0 : decide (y < 0) = false := decide_eq_false h0
        by_cases h1 : bm ≤ y
        · have e1 : decide (bm ≤ y) = true := decide_eq_true h1
          have h2 : ¬ y < bm := by omega
          go_wp2
          go_ret
          exact ⟨by rw [← HF.out, if_pos (by unfold badB; rw [e0, decide_eq_true (show y ≥ bm from h1)]; rfl)]; rfl, rfl⟩
        · have e1 : decide (bm ≤ y) = false := decide_eq_false h1
          have h2 : y < bm := by omega
          have HW := Aside0.mk (show ¬ badB bm y = true by unfold badB; rw [e0, decide_eq_false (show ¬ y ≥ bm from h1)]; decide)
          go_wp2
          go_roundg gk
          case measure => omega
          case rel => exact ⟨i + 1, rfl, by have := HI.out; omega, ⟨by have := HF.out; rwa [if_neg HW.out] at this, rfl⟩⟩
theorem contains25 (W : World) (A : Option Addr) (c : Nat) (xs : List Int) (hr : Kd.C (Kd.int .i64) W A xs.length xs) : Calls Try.prog 26 #[.slice A xs.length c, .func (.func 25) #[] #[]] W fun e w' => e = .returned (.bool (xs.any wrongB)) ∧ w' = W := by
  have C28 := Aside0.mk (index25 W A c xs hr)
  have hd : decide (0 ≤ findF wrongB xs 0) = xs.any wrongB := by rw [Bool.eq_iff_iff, decide_eq_true_eq]; exact findF_neg _ _ _
  clear hr
  generalize findF wrongB xs 0 = y at C28 hd
  go_enter Try.func26, Try.ntmps26
  go_wp2_with (go_at_call 28; (with_reducible refine (C28.out).mono ?_); rintro e w2 ⟨rfl, rfl⟩)
  go_ret
  exact ⟨by simp [hd], rfl⟩
theorem contains27 (W : World) (A : Option Addr) (c : Nat) (xs : List Int) (hr : Kd.C (Kd.int .i64) W A xs.length xs) (gs : Nat) (A1 : Option Addr) (n1 c1 : Nat) (v0 : Value) (hn1 : n1 ≤ 9223372036854775807) (hs : W.heap[gs]? = some (.cells #[v0, .slice A1 n1 c1] 25 (0, 0))) :
    Calls Try.prog 26 #[.slice A xs.length c, .func (.func 27) #[] #[.pointer (some ⟨gs, 0, none⟩)]] W fun e w' => e = .returned (.bool (xs.any (badB ((n1 / 256 : Nat) : Int)))) ∧ w' = W := by
  have C28 := Aside0.mk (index27 W A c xs hr gs A1 n1 c1 v0 hn1 hs)
  have hd : decide (0 ≤ findF (badB ((n1 / 256 : Nat) : Int)) xs 0) = xs.any (badB ((n1 / 256 : Nat) : Int)) := by rw [Bool.eq_iff_iff, decide_eq_true_eq]; exact findF_neg _ _ _
  clear hr hs
  generalize findF (badB ((n1 / 256 : Nat) : Int)) xs 0 = y at C28 hd
  go_enter Try.func26, Try.ntmps26
  go_wp2_with (go_at_call 28; (with_reducible refine (C28.out).mono ?_); rintro e w2 ⟨rfl, rfl⟩)
  go_ret
  exact ⟨by simp [hd], rfl⟩
def packedB (ix bl : List Int) : Bool := decide (ix.length = 4352) && decide (bl.length % 256 = 0) && !(bl.any wrongB) && !(ix.any (badB ((bl.length / 256 : Nat) : Int)))
set_option maxHeartbeats 8000000 in
set_option maxRecDepth 100000 in
theorem packed_calls (A0 : Option Addr) (c0 : Nat) (l0 : List Int) (A1 : Option Addr) (c1 : Nat) (l1 : List Int) (w : World) (hr0 : Kd.C (Kd.int .i64) w A0 l0.length l0) (hr1 : Kd.C (Kd.int .i64) w A1 l1.length l1) :
    Calls Try.prog 22 #[.agg #[.slice A0 l0.length c0, .slice A1 l1.length c1]] w fun e w' => e = .returned (.bool (packedB l0 l1)) ∧ Below w.heap.size w w' := by
  have hn0 := hr0.2.1
  have hn1 := hr1.2.1
  have hb := below_alloc (Below.refl w.heap.size w) (.cells #[.slice A0 l0.length c0, .slice A1 l1.length c1] 25)
  have C25 := Aside0.mk (contains25 _ A1 c1 l1 (Kd.C_below hr1 hb))
  have C27 := Aside0.mk (contains27 _ A0 c0 l0 (Kd.C_below hr0 hb) w.heap.size A1 l1.length c1 _ hn1 (blk_new w _))
  have HB := Aside0.mk hb
  clear hr0 hr1 hb
  unfold packedB
  generalize l1.any wrongB = b2 at C25 ⊢
  generalize l0.any (badB ((l1.length / 256 : Nat) : Int)) = b3 at C27 ⊢
  generalize l0.length = n0 at *
  generalize l1.length = n1 at *
  by_cases h0 : n0 = 4352
  · subst h0
    by_cases h1 : n1 % 256 = 0
    · have e1 : ((n1 : Int) % 256 != 0) = false := by rw [bne_eq_false_iff_eq]; omega
      have e2 : ((n1 : Int) % 256 == 0) = true := by rw [beq_iff_eq]; omega
      have e3 : (n1 : Int) % 256 = 0 := by omega
      have e4 : wrap64 ((n1 : Int) % 256) = 0 := by unfold wrap64; omega
      have e5 : IntKind.i64.wrap ((n1 : Int) % 256) = 0 := by rw [IntKind.wrap_i64]; omega
      have e6 := decide_eq_true h1
      cases b2 with
      | true =>
        go_enter Try.func22, Try.ntmps22
        go_wp2_with (go_at_call 26; first | ((with_reducible refine (C25.out).mono ?_); rintro e w2 ⟨rfl, rfl⟩) | ((with_reducible refine (C27.out).mono ?_); rintro e w2 ⟨rfl, rfl⟩))
        go_ret
        exact ⟨by simp, HB.out⟩
      | false =>
        go_enter Try.func22, Try.ntmps22
        go_wp2_with (go_at_call 26; first | ((with_reducible refine (C25.out).mono ?_); rintro e w2 ⟨rfl, rfl⟩) | ((with_reducible refine (C27.out).mono ?_); rintro e w2 ⟨rfl, rfl⟩))
        go_ret
        exact ⟨by rw [e6]; simp, HB.out⟩
    · have e1 : ((n1 : Int) % 256 != 0) = true := by rw [bne_iff_ne]; omega
      have e2 : ((n1 : Int) % 256 == 0) = false := by rw [beq_eq_false_iff_ne]; omega
      have e3 : ¬ (n1 : Int) % 256 = 0 := by omega
      have e4 : wrap64 ((n1 : Int) % 256) = (n1 : Int) % 256 := by unfold wrap64; omega
      have e6 := decide_eq_false h1
      go_enter Try.func22, Try.ntmps22
      go_wp2_with (go_at_call 26; first | ((with_reducible refine (C25.out).mono ?_); rintro e w2 ⟨rfl, rfl⟩) | ((with_reducible refine (C27.out).mono ?_); rintro e w2 ⟨rfl, rfl⟩))
      go_ret
      exact ⟨by rw [e6]; simp, HB.out⟩
  · have e1 : ((n0 : Int) != 4352) = true := by rw [bne_iff_ne]; omega
    have e2 : ((n0 : Int) == 4352) = false := by rw [beq_eq_false_iff_ne]; omega
    have e3 : ¬ (n0 : Int) = 4352 := by omega
    have e6 := decide_eq_false h0
    go_enter Try.func22, Try.ntmps22
    go_wp2_with (go_at_call 26; first | ((with_reducible refine (C25.out).mono ?_); rintro e w2 ⟨rfl, rfl⟩) | ((with_reducible refine (C27.out).mono ?_); rintro e w2 ⟨rfl, rfl⟩))
    go_ret
    exact ⟨by rw [e6]; simp, HB.out⟩
end Go.Proofs.Ytaniolefeieliaa.Pk
