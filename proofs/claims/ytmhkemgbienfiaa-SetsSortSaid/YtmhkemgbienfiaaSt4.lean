/- The walks of slices.stableCmpFunc and slices.SortStableFunc. -/
import Derived.Test.YtmhkemgbienfiaaSt3b
import Derived.Sort.WalkA
import Derived.Sort.WalkB2
import Derived.Sort.WalkB12
import Derived.Deep.LoopGhost
set_option linter.unusedVariables false
set_option linter.unusedSimpArgs false
set_option linter.unusedSectionVars false
namespace Go.Proofs.Ytmhkemgbienfiaa.Sets
open Go.Shelf Go.RowKit Go.Lib Go.Sort Go.Proofs
theorem size_stIns {α : Type} [Inhabited α] (lt : α → α → Bool) (hins : ∀ (d : Array α) a b, (insertionSort lt d a b).size = d.size) : ∀ (f a : Nat) (d : Array α), (stIns lt f a d).size = d.size
  | 0, _, _ => rfl
  | f + 1, a, d => by
    rw [stIns]
    split
    · rw [size_stIns lt hins f, hins]
    · exact hins _ _ _
theorem size_insertionSort_ {α : Type} [Inhabited α] (lt : α → α → Bool) (d : Array α) (a b : Nat) : (insertionSort lt d a b).size = d.size := by
  have h1 : ∀ (j : Nat) (d : Array α), (insInner lt a j d).size = d.size := by
    intro j
    induction j with
    | zero => intro d; rfl
    | succ j ih =>
      intro d
      rw [insInner]
      split
      · rw [ih, size_swp]
      · rfl
  have h2 : ∀ (n i : Nat) (d : Array α), b - i = n → (insOuter lt a b i d).size = d.size := by
    intro n
    induction n with
    | zero => intro i d h; rw [insOuter, if_neg (by omega)]
    | succ n ih => intro i d h; rw [insOuter, if_pos (by omega), ih _ _ (by omega), h1]
  exact h2 _ _ _ rfl
theorem size_stMrg {α : Type} [Inhabited α] (lt : α → α → Bool) (bs : Nat) : ∀ (f a : Nat) (d : Array α), (stMrg lt bs f a d).size = d.size
  | 0, _, _ => rfl
  | f + 1, a, d => by
    rw [stMrg]
    split
    · rw [size_stMrg lt bs f, size_symMerge]
    · split
      · exact size_symMerge _ _ _ _ _ _
      · rfl

variable {α : Type} [Inhabited α]

set_option maxHeartbeats 16000000 in
set_option maxRecDepth 1000000 in
theorem insertion_s (enc : α → Value) (cf : α → α → Int) (g : Nat) (cb : Array Value) (blk off cap a b : Nat) (d0 d : Array α) (w0 w : World)
    (eg : ∀ args w, (callFunc g args).run Try.prog w = .ok (.enter g args) w) (hcmp : CmpLays1 Try.prog g cb enc cf blk off d0.size w0) (R : Row1 enc w0 blk off d0) (hs : d0.size = d.size) (S : SW enc w0 blk off d w) (hab : a ≤ b) (hb : b ≤ d.size) (hsz : d.size < 4611686018427387904) :
    Calls Try.prog 30 #[.slice (some ⟨blk, off, none⟩) d.size cap, .int .i64 a, .int .i64 b, .func (.func g) #[] cb] w fun e w' => e = .returned (.tuple #[]) ∧ SW enc w0 blk off (Sort.insertionSort (ltOf cf) d a b) w' := by
  have mixed : Try.prog.follows .mixedOrders = true := by kernel_rfl
  have hu26 := Try.underlying26
  have hcl0 := R.hO.cells
  simp only [Value.cells] at hcl0
  have hst := R.hO.store Try.prog
  have HC : Aside _ := hcmp
  have S0 : Aside (SW enc w0 blk off d w) := S
  clear S
  clear hcmp
  go_enter Try.func30, Try.ntmps30
  go_wp2
  go_loopg [8] (b - a) (fun g1 vi wr => ∃ (i : Nat) (dk : Array α), vi = .int .i64 i ∧ a < i ∧ i ≤ b + 1 ∧ b + 1 - i ≤ g1 + 1 ∧ dk.size = d.size ∧ Aside (SW enc w0 blk off dk wr) ∧ Hid (insOuter (ltOf cf) a b i dk = insOuter (ltOf cf) a b (a + 1) d))
  case atStart => exact ⟨a + 1, d, by go_num, by omega, by omega, by omega, rfl, S0, rfl⟩
  case round =>
    clear S0
    obtain ⟨i, dk, rfl, hai, hib, hg1, hsk, S1, HO⟩ := hrel
    by_cases hlt : i < b
    · have hltz : (i : Int) < (b : Int) := by omega
      go_wp2
      -- the inner loop
      go_loopg [9] i (fun g2 vj wr2 => ∃ (j : Nat) (dj : Array α), vj = .int .i64 j ∧ a ≤ j ∧ j ≤ i ∧ j ≤ g2 ∧ dj.size = d.size ∧ Aside (SW enc w0 blk off dj wr2) ∧ Hid (insInner (ltOf cf) a j dj = insInner (ltOf cf) a i dk))
      case atStart => exact ⟨i, dk, rfl, by omega, Nat.le_refl _, Nat.le_refl _, hsk, S1, rfl⟩
      case round =>
        clear S1
        obtain ⟨j, dj, rfl, haj, hji, hg2, hsj, SJ, HI⟩ := hrel
        have out : (j ≤ a ∨ (ltOf cf) dj[j]! dj[j - 1]! = false) → Hid (insOuter (ltOf cf) a b (i + 1) dj = insOuter (ltOf cf) a b (a + 1) d) := fun hs => by
          show _ = _
          rw [← HO.out, insOuter_go _ _ _ _ _ hlt, ← HI.out, insInner_stop _ _ _ _ hs]
        have OUT : Aside _ := out
        clear out
        by_cases hja : a < j
        · have hjaz : (a : Int) < (j : Int) := by omega
          obtain ⟨jp, hjp⟩ : ∃ q, q + 1 = j := ⟨j - 1, by omega⟩
          have zjp : (j : Int) = (jp : Int) + 1 := by omega
          have hjad : decide ((jp : Int) + 1 > (a : Int)) = true := decide_eq_true (by omega)
          have hjaz' : (a : Int) < (jp : Int) + 1 := by omega
          cases hlv : (ltOf cf) dj[j]! dj[j - 1]! with
          | true =>
            obtain ⟨iN1193, hiN1193⟩ : ∃ q, q = j := ⟨_, rfl⟩
            obtain ⟨jN1193, hjN1193⟩ : ∃ q, q = j - 1 := ⟨_, rfl⟩
            have ea1193 : ((jp : Int) + 1).toNat = iN1193 := by omega
            have pa1193 : (0 : Int) ≤ (jp : Int) + 1 := by omega
            have ba1193 : (jp : Int) + 1 < (d.size : Int) := by omega
            have ra1193 : IntKind.i64.wrap ((jp : Int) + 1) = (jp : Int) + 1 := by rw [IntKind.wrap_i64]; omega
            have ec1193 : ((jp : Int)).toNat = jN1193 := by omega
            have pc1193 : (0 : Int) ≤ (jp : Int) := by omega
            have bc1193 : (jp : Int) < (d.size : Int) := by omega
            have rc1193 : IntKind.i64.wrap ((jp : Int)) = (jp : Int) := by rw [IntKind.wrap_i64]; omega
            obtain ⟨x1193, hx1193⟩ : ∃ x, x = dj[j]! := ⟨_, rfl⟩
            obtain ⟨y1193, hy1193⟩ : ∃ x, x = dj[j - 1]! := ⟨_, rfl⟩
            have l1193a := SJ.out.cl R (by omega) (j) (by omega)
            have l1193b := SJ.out.cl R (by omega) (j - 1) (by omega)
            rw [← hx1193, ← hiN1193] at l1193a
            rw [← hy1193, ← hjN1193] at l1193b
            have hc1193 := SJ.out.cmp HC.out (by omega) x1193 y1193
            have hv1193 : cf x1193 y1193 < 0 := by rw [hx1193, hy1193]; exact of_decide_eq_true hlv
            have hd1193 : decide (cf x1193 y1193 < 0) = true := decide_eq_true hv1193
            clear hx1193 hy1193 hiN1193 hjN1193
            go_wp2_with fail
            go_quiet_grown (first | (go_at_fn g; refine Calls.grown_of (hc1193 _ _)))
            have S2 : Aside (SW enc w0 blk off dj (grow (wr.drewN nq) osq)) := SJ.out.grown nq osq
            clear l1193a l1193b hc1193 SJ
            generalize grow (wr.drewN nq) osq = w2 at S2 ⊢
            clear nq osq
            clear ea1193 ec1193
            go_wp2_with fail
            obtain ⟨iN1194, hiN1194⟩ : ∃ q, q = j := ⟨_, rfl⟩
            obtain ⟨jN1194, hjN1194⟩ : ∃ q, q = j - 1 := ⟨_, rfl⟩
            have ea1194 : ((jp : Int) + 1).toNat = iN1194 := by omega
            have pa1194 : (0 : Int) ≤ (jp : Int) + 1 := by omega
            have ba1194 : (jp : Int) + 1 < (d.size : Int) := by omega
            have ra1194 : IntKind.i64.wrap ((jp : Int) + 1) = (jp : Int) + 1 := by rw [IntKind.wrap_i64]; omega
            have ec1194 : ((jp : Int)).toNat = jN1194 := by omega
            have pc1194 : (0 : Int) ≤ (jp : Int) := by omega
            have bc1194 : (jp : Int) < (d.size : Int) := by omega
            have rc1194 : IntKind.i64.wrap ((jp : Int)) = (jp : Int) := by rw [IntKind.wrap_i64]; omega
            obtain ⟨x1194, hx1194⟩ : ∃ x, x = dj[j]! := ⟨_, rfl⟩
            obtain ⟨y1194, hy1194⟩ : ∃ x, x = dj[j - 1]! := ⟨_, rfl⟩
            have S3 : Aside (SW enc w0 blk off (swp dj (j) (j - 1)) ((w2.setCell ⟨blk, off + iN1194, none⟩ (enc y1194)).setCell ⟨blk, off + jN1194, none⟩ (enc x1194)).drew) := by rw [hiN1194, hjN1194, hx1194, hy1194]; exact S2.out.swapped R (j) (j - 1) (by omega) (by omega)
            have c1194a := S2.out.c1 R (by omega) (j) (by omega)
            have c1194b := S2.out.c1 R (by omega) (j - 1) (by omega)
            have f1194a := S2.out.f1 R (by omega) (j) (by omega)
            have f1194b := S2.out.f1 R (by omega) (j - 1) (by omega)
            obtain ⟨u1194, c1194c⟩ := S2.out.c2 R (by omega) (j) (j - 1) (by omega) (by omega) (enc y1194)
            rw [← hjN1194, ← hiN1194] at c1194c
            rw [← hx1194, ← hiN1194] at c1194a
            rw [← hy1194, ← hjN1194] at c1194b
            rw [← hiN1194] at f1194a
            rw [← hjN1194] at f1194b
            clear S2 hx1194 hy1194 hiN1194 hjN1194
            go_wp2_with fail
            go_big_region
            clear c1194a c1194b c1194c f1194a f1194b
            generalize ((w2.setCell ⟨blk, off + iN1194, none⟩ (enc y1194)).setCell ⟨blk, off + jN1194, none⟩ (enc x1194)).drew = w3 at S3 ⊢
            clear ea1194 ec1194
            go_wp2
            go_roundg (j - 1)
            case measure => omega
            case rel => exact ⟨j - 1, swp dj j (j - 1), by first | rfl | go_num | (congr 1; omega), by omega, by omega, Nat.le_refl _, by rw [size_swp]; exact hsj, S3, (show Hid _ from by rw [← HI.out, insInner_go (ltOf cf) a j dj hja hlv]; exact rfl)⟩
          | false =>
            obtain ⟨iN1195, hiN1195⟩ : ∃ q, q = j := ⟨_, rfl⟩
            obtain ⟨jN1195, hjN1195⟩ : ∃ q, q = j - 1 := ⟨_, rfl⟩
            have ea1195 : ((jp : Int) + 1).toNat = iN1195 := by omega
            have pa1195 : (0 : Int) ≤ (jp : Int) + 1 := by omega
            have ba1195 : (jp : Int) + 1 < (d.size : Int) := by omega
            have ra1195 : IntKind.i64.wrap ((jp : Int) + 1) = (jp : Int) + 1 := by rw [IntKind.wrap_i64]; omega
            have ec1195 : ((jp : Int)).toNat = jN1195 := by omega
            have pc1195 : (0 : Int) ≤ (jp : Int) := by omega
            have bc1195 : (jp : Int) < (d.size : Int) := by omega
            have rc1195 : IntKind.i64.wrap ((jp : Int)) = (jp : Int) := by rw [IntKind.wrap_i64]; omega
            obtain ⟨x1195, hx1195⟩ : ∃ x, x = dj[j]! := ⟨_, rfl⟩
            obtain ⟨y1195, hy1195⟩ : ∃ x, x = dj[j - 1]! := ⟨_, rfl⟩
            have l1195a := SJ.out.cl R (by omega) (j) (by omega)
            have l1195b := SJ.out.cl R (by omega) (j - 1) (by omega)
            rw [← hx1195, ← hiN1195] at l1195a
            rw [← hy1195, ← hjN1195] at l1195b
            have hc1195 := SJ.out.cmp HC.out (by omega) x1195 y1195
            have hv1195 : ¬ cf x1195 y1195 < 0 := by rw [hx1195, hy1195]; exact of_decide_eq_false hlv
            have hd1195 : decide (cf x1195 y1195 < 0) = false := decide_eq_false hv1195
            clear hx1195 hy1195 hiN1195 hjN1195
            go_wp2_with fail
            go_quiet_grown (first | (go_at_fn g; refine Calls.grown_of (hc1195 _ _)))
            have S2 : Aside (SW enc w0 blk off dj (grow (wr.drewN nq) osq)) := SJ.out.grown nq osq
            clear l1195a l1195b hc1195 SJ
            generalize grow (wr.drewN nq) osq = w2 at S2 ⊢
            clear nq osq
            clear ea1195 ec1195
            go_wp2
            go_roundg (b - (i + 1))
            case measure => omega
            case rel => exact ⟨i + 1, dj, by go_num, by omega, by omega, by omega, hsj, S2, OUT.out (Or.inr hlv)⟩
        · -- j = a: out of the inner loop (the guard is false: 'cmp' is not called)
          have hjaz : decide ((j : Int) > (a : Int)) = false := decide_eq_false (by omega)
          have hjaz' : ¬ (a : Int) < (j : Int) := by omega
          go_wp2_with fail
          go_big_region
          have S2 : Aside (SW enc w0 blk off dj wr.drew) := SJ.out.drew
          clear SJ
          generalize wr.drew = w2 at S2 ⊢
          go_wp2
          go_roundg (b - (i + 1))
          case measure => omega
          case rel => exact ⟨i + 1, dj, by go_num, by omega, by omega, by omega, hsj, S2, OUT.out (Or.inl (by omega))⟩
    · -- the outer loop is at its end
      have hltz : ¬ (i : Int) < (b : Int) := by omega
      go_wp2
      go_end0
      exact ⟨rfl, by unfold Sort.insertionSort; rw [← HO.out, insOuter_stop _ _ _ _ _ hlt]; exact S1.out⟩


set_option maxHeartbeats 16000000 in
set_option maxRecDepth 1000000 in
theorem stable_s (enc : α → Value) (cf : α → α → Int) (g : Nat) (cb : Array Value) (blk off cap : Nat) (d : Array α) (w : World)
    (eg : ∀ args w, (callFunc g args).run Try.prog w = .ok (.enter g args) w) (hcmp : CmpLays1 Try.prog g cb enc cf blk off d.size w) (R : Row1 enc w blk off d) (hsz : d.size < 1152921504606846976) :
    Calls Try.prog 28 #[.slice (some ⟨blk, off, none⟩) d.size cap, .int .i64 d.size, .func (.func g) #[] cb] w fun e w' => e = .returned (.tuple #[]) ∧ SW enc w blk off (stable (ltOf cf) d) w' := by
  have mixed : Try.prog.follows .mixedOrders = true := by kernel_rfl
  have hu26 := Try.underlying26
  have HC : Aside _ := hcmp
  have S0 : Aside (SW enc w blk off d w) := SW.start R.hH
  have hI := fun (a b : Nat) (d' : Array α) (w' : World) (h1 : d.size = d'.size) (S : SW enc w blk off d' w') (h2 : a ≤ b) (h3 : b ≤ d'.size) => insertion_s enc cf g cb blk off cap a b d d' w w' eg HC.out R h1 S h2 h3 (by omega)
  have hM := fun (f a m b : Nat) (d' : Array α) (w' : World) (h1 : d.size = d'.size) (S : SW enc w blk off d' w') (h2 : a < m) (h3 : m < b) (h4 : b ≤ d'.size) (h5 : b - a ≤ f) => symMerge_s enc cf g cb blk off cap d w eg HC.out R (by omega) f a m b d' w' h1 S h2 h3 h4 h5
  have HI : Aside _ := hI
  have HM : Aside _ := hM
  clear hcmp hI hM
  have zi := size_insertionSort_ (ltOf cf)
  have ZI : Aside _ := zi
  clear zi
  obtain ⟨n, hn⟩ : ∃ q, d.size = q := ⟨_, rfl⟩
  have HN := Lib.hid hn
  rw [hn] at hsz ⊢
  clear hn
  go_enter Try.func28, Try.ntmps28
  go_wp2
  go_loopg [7, 8] (n + 1) (fun gk va vb wr => ∃ (i : Nat) (dk : Array α), va = .int .i64 i ∧ vb = .int .i64 ((i : Int) + 20) ∧ i ≤ n ∧ n - i < gk ∧ Hid (dk.size = n) ∧ Aside (SW enc w blk off dk wr) ∧ Hid (stIns (ltOf cf) gk i dk = stIns (ltOf cf) (d.size + 1) 0 d))
  case atStart => exact ⟨0, d, rfl, by go_num, by omega, by omega, HN, S0, by have := HN.out; rw [this]; rfl⟩
  case round =>
    clear S0
    obtain ⟨i, dk, rfl, rfl, hin, hg, hsk, S1, HO⟩ := hrel
    obtain ⟨gk1, rfl⟩ : ∃ q, gk = q + 1 := ⟨gk - 1, by omega⟩
    have hro := HO.out
    rw [stIns, hsk.out] at hro
    clear HO
    by_cases hle : i + 20 ≤ n
    · have hlez : (i : Int) + 20 ≤ (n : Int) := by omega
      rw [if_pos hle] at hro
      have HR := Lib.hid hro
      clear hro
      have hc := HI.out i (i + 20) dk wr (by rw [HN.out, hsk.out]) S1.out (by omega) (by rw [hsk.out]; omega)
      rw [hsk.out, show ((i + 20 : Nat) : Int) = (i : Int) + 20 by omega] at hc
      clear S1
      go_wp2_with (go_at_call 30; (with_reducible refine hc.mono ?_); rintro e w2 ⟨rfl, S2⟩; have S3 : Aside _ := S2; clear S2)
      go_roundg gk1
      case measure => omega
      case rel => exact ⟨i + 20, insertionSort (ltOf cf) dk i (i + 20), by go_num, by go_num, by omega, by omega, by have h1 := ZI.out dk i (i + 20); have h2 := hsk.out; exact (h1.trans h2 : _ = _), S3, HR⟩
    · have hlez : ¬ (i : Int) + 20 ≤ (n : Int) := by omega
      rw [if_neg hle] at hro
      have hc := HI.out i n dk wr (by rw [HN.out, hsk.out]) S1.out (by omega) (by rw [hsk.out]; omega)
      rw [hsk.out, hro] at hc
      clear S1 hro
      obtain ⟨d1, hd1⟩ : ∃ q, stIns (ltOf cf) (d.size + 1) 0 d = q := ⟨_, rfl⟩
      rw [hd1] at hc
      have z1 : Hid (d1.size = n) := by have h := size_stIns (ltOf cf) ZI.out (d.size + 1) 0 d; rw [hd1] at h; exact h.trans HN.out
      have D1 := Lib.hid hd1
      clear hd1
      have FIN : Hid (stable (ltOf cf) d = stLoop (ltOf cf) n 20 d1) := by show _ = _; unfold stable; rw [D1.out, HN.out]
      clear D1
      go_wp2_with (go_at_call 30; (with_reducible refine hc.mono ?_); rintro e w2 ⟨rfl, S2⟩; have S3 : Aside _ := S2; clear S2)
      clear hc hle hlez hg hin hsk
      go_loopg [6] n (fun gk vb wr => ∃ (bs : Nat) (dk : Array α), vb = .int .i64 bs ∧ 0 < bs ∧ bs < 2305843009213693952 ∧ n < gk + bs ∧ Hid (dk.size = n) ∧ Aside (SW enc w blk off dk wr) ∧ Hid (stLoop (ltOf cf) gk bs dk = stLoop (ltOf cf) n 20 d1))
      case atStart => exact ⟨20, d1, by go_num, by omega, by omega, by omega, z1, S3, rfl⟩
      case round =>
        clear S3
        obtain ⟨bs, dk2, rfl, hb0, hb1, hg, hsk, S1, HO⟩ := hrel
        by_cases hlt : bs < n
        · have hltz : (bs : Int) < (n : Int) := by omega
          obtain ⟨gk2, rfl⟩ : ∃ q, gk = q + 1 := ⟨gk - 1, by omega⟩
          have hro := HO.out
          rw [stLoop, hsk.out, if_pos hlt] at hro
          have HR := Lib.hid hro
          clear hro HO
          go_wp2
          go_loopg [7, 8] (n + 1) (fun gk va vb wr => ∃ (i : Nat) (dk : Array α), va = .int .i64 i ∧ vb = .int .i64 ((i : Int) + 2 * (bs : Int)) ∧ i ≤ n ∧ n - i < gk ∧ Hid (dk.size = n) ∧ Aside (SW enc w blk off dk wr) ∧ Hid (stMrg (ltOf cf) bs gk i dk = stMrg (ltOf cf) bs (n + 1) 0 dk2))
          case atStart => exact ⟨0, dk2, rfl, by go_num, by omega, by omega, hsk, S1, rfl⟩
          case round =>
            clear S1
            obtain ⟨i, dk, rfl, rfl, hin, hg2, hsk2, S1, HO⟩ := hrel
            obtain ⟨gk3, rfl⟩ : ∃ q, gk = q + 1 := ⟨gk - 1, by omega⟩
            have hro := HO.out
            rw [stMrg, hsk2.out] at hro
            clear HO
            by_cases hle : i + 2 * bs ≤ n
            · have hlez : (i : Int) + 2 * (bs : Int) ≤ (n : Int) := by omega
              rw [if_pos hle] at hro
              have HR2 := Lib.hid hro
              clear hro
              have hc := HM.out (2 * bs) i (i + bs) (i + 2 * bs) dk wr (by rw [HN.out, hsk2.out]) S1.out (by omega) (by omega) (by rw [hsk2.out]; omega) (by omega)
              rw [hsk2.out, show ((i + 2 * bs : Nat) : Int) = (i : Int) + 2 * (bs : Int) by omega, show ((i + bs : Nat) : Int) = (i : Int) + (bs : Int) by omega] at hc
              clear S1
              go_wp2_with (go_at_call 31; (with_reducible refine hc.mono ?_); rintro e w2 ⟨rfl, S2⟩; have S3 : Aside _ := S2; clear S2)
              go_roundg gk3
              case measure => omega
              case rel => exact ⟨i + 2 * bs, symMerge (ltOf cf) (2 * bs) dk i (i + bs) (i + 2 * bs), by go_num, by go_num, by omega, by omega, (show Hid (_ = n) from (size_symMerge _ _ _ _ _ _).trans hsk2.out), S3, HR2⟩
            · have hlez : ¬ (i : Int) + 2 * (bs : Int) ≤ (n : Int) := by omega
              rw [if_neg hle] at hro
              by_cases hm : i + bs < n
              · rw [if_pos hm] at hro
                have hmz : (i : Int) + (bs : Int) < (n : Int) := by omega
                have hc := HM.out (2 * bs) i (i + bs) n dk wr (by rw [HN.out, hsk2.out]) S1.out (by omega) (by omega) (by rw [hsk2.out]; omega) (by omega)
                rw [hsk2.out, show ((i + bs : Nat) : Int) = (i : Int) + (bs : Int) by omega, hro] at hc
                have HR3 : Hid (stLoop (ltOf cf) gk2 (2 * bs) (stMrg (ltOf cf) bs (n + 1) 0 dk2) = stLoop (ltOf cf) n 20 d1) := HR
                have z3 : Hid ((stMrg (ltOf cf) bs (n + 1) 0 dk2).size = n) := (size_stMrg _ _ _ _ _).trans hsk.out
                clear S1 hro
                go_wp2_with (go_at_call 31; (with_reducible refine hc.mono ?_); rintro e w2 ⟨rfl, S2⟩; have S3 : Aside _ := S2; clear S2)
                go_roundg gk2
                case measure => omega
                case rel => exact ⟨2 * bs, stMrg (ltOf cf) bs (n + 1) 0 dk2, by first | go_num | (congr 1; omega), by omega, by omega, by omega, z3, S3, HR3⟩
              · rw [if_neg hm] at hro
                have hmz : ¬ (i : Int) + (bs : Int) < (n : Int) := by omega
                have HR3 : Hid (stLoop (ltOf cf) gk2 (2 * bs) dk = stLoop (ltOf cf) n 20 d1) := by show _ = _; rw [hro]; exact HR.out
                clear hro
                go_wp2
                go_roundg gk2
                case measure => omega
                case rel => exact ⟨2 * bs, dk, by first | go_num | (congr 1; omega), by omega, by omega, by omega, hsk2, S1, HR3⟩
        · have hltz : ¬ (bs : Int) < (n : Int) := by omega
          have e : stLoop (ltOf cf) gk bs dk2 = dk2 := by
            cases gk with
            | zero => rfl
            | succ f => rw [stLoop, hsk.out, if_neg hlt]
          have E := Lib.hid e
          clear e
          go_wp2
          go_end0
          exact ⟨rfl, by rw [FIN.out, ← HO.out, E.out]; exact S1.out⟩
end Go.Proofs.Ytmhkemgbienfiaa.Sets
