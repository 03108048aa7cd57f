/- The walk of slices.symMergeCmpFunc, the short parts. -/
import Derived.Test.YtmhkemgbienfiaaSt2
set_option linter.unusedVariables false
set_option linter.unusedSimpArgs false
set_option linter.unusedSectionVars false
namespace Go.Proofs.Ytmhkemgbienfiaa.Sets
open Go.Shelf Go.RowKit Go.Lib Go.Sort Go.Proofs
theorem size_up {α : Type} [Inhabited α] : ∀ (k i : Nat) (d : Array α), (up k i d).size = d.size
  | 0, _, _ => rfl
  | k + 1, i, d => by rw [up, size_up k, size_swp]
theorem size_down {α : Type} [Inhabited α] : ∀ (k i : Nat) (d : Array α), (down k i d).size = d.size
  | 0, _, _ => rfl
  | k + 1, i, d => by rw [down, size_down k, size_swp]
theorem size_symMerge {α : Type} [Inhabited α] (lt : α → α → Bool) : ∀ (f : Nat) (d : Array α) (a m b : Nat), (symMerge lt f d a m b).size = d.size
  | 0, _, _, _, _ => rfl
  | f + 1, d, a, m, b => by
    rw [symMerge]
    split
    · exact size_up _ _ _
    · split
      · exact size_down _ _ _
      · have h := fun (x : Array α) a b c => size_symMerge lt f x a b c
        dsimp only
        generalize (if m > (a + b) / 2 then bsM lt ((a + b) / 2 + m - 1) d ((a + b) / 2 - ((a + b) / 2 + m - b) + 1) ((a + b) / 2 + m - b) ((a + b) / 2) else bsM lt ((a + b) / 2 + m - 1) d (m - a + 1) a m) = s
        have h1 : (if s < m ∧ m < (a + b) / 2 + m - s then rot m ((a + b) / 2 + m - s - s) (m - s) ((a + b) / 2 + m - s - m) d else d).size = d.size := by
          split
          · exact size_rot _ _ _ _ _
          · rfl
        have h2 : ∀ (p : Prop) [Decidable p] (x y : Array α), x.size = d.size → y.size = d.size → (if p then x else y).size = d.size := by
          intro p _ x y hx hy
          split
          · exact hx
          · exact hy
        refine h2 _ _ _ ?_ ?_
        · rw [h]; refine h2 _ _ _ ?_ h1; rw [h]; exact h1
        · refine h2 _ _ _ ?_ h1; rw [h]; exact h1

variable {α : Type} [Inhabited α]

set_option maxHeartbeats 8000000 in
set_option maxRecDepth 1000000 in
theorem symMerge_1 (enc : α → Value) (cf : α → α → Int) (g : Nat) (cb : Array Value) (blk off cap a m b f : Nat) (d0 d : Array α) (w0 w : World)
    (eg : ∀ args w, (callFunc g args).run Try.prog w = .ok (.enter g args) w) (hcmp : CmpLays1 Try.prog g cb enc cf blk off d0.size w0) (R : Row1 enc w0 blk off d0) (hs : d0.size = d.size) (S : SW enc w0 blk off d w)
    (ham : a + 1 = m) (hmb : m < b) (hb : b ≤ d.size) (hsz : d.size < 4611686018427387904) :
    Calls Try.prog 31 #[.slice (some ⟨blk, off, none⟩) d.size cap, .int .i64 a, .int .i64 m, .int .i64 b, .func (.func g) #[] cb] w fun e w' => e = .returned (.tuple #[]) ∧ SW enc w0 blk off (symMerge (ltOf cf) (f + 1) d a m b) w' := by
  have mixed : Try.prog.follows .mixedOrders = true := by kernel_rfl
  have hu26 := Try.underlying26
  have hcl0 := R.hO.cells
  simp only [Value.cells] at hcl0
  have hst := R.hO.store Try.prog
  have S0 : Aside (SW enc w0 blk off d w) := S
  have HC : Aside _ := hcmp
  clear S hcmp
  have E : symMerge (ltOf cf) (f + 1) d a m b = up (bsL (ltOf cf) a d (b - m + 1) m b - 1 - a) a d := by rw [symMerge, if_pos (by omega)]
  rw [E]
  clear E
  have k1 : ((m : Int) - (a : Int) == 1) = true := by simp; omega
  go_enter Try.func31, Try.ntmps31
  go_wp2
  go_loopg [10, 11] (b - m + 1) (fun gk vi vj wr => ∃ (i j : Nat), vi = .int .i64 i ∧ vj = .int .i64 j ∧ m ≤ i ∧ i ≤ j ∧ j ≤ b ∧ j - i < gk ∧ Aside (SW enc w0 blk off d wr) ∧ Hid (bsL (ltOf cf) a d gk i j = bsL (ltOf cf) a d (b - m + 1) m b))
  case atStart => exact ⟨m, b, rfl, rfl, by omega, by omega, by omega, by omega, S0, rfl⟩
  case round =>
    clear S0
    obtain ⟨i, j, rfl, rfl, hmi, hij, hjb, hg, S1, HO⟩ := hrel
    obtain ⟨gk1, rfl⟩ : ∃ q, gk = q + 1 := ⟨gk - 1, by omega⟩
    have hro := HO.out
    rw [bsL] at hro
    clear HO
    by_cases hlt : i < j
    · have hltz : (i : Int) < (j : Int) := by omega
      rw [if_pos hlt] at hro
      obtain ⟨h, hh⟩ : ∃ h, h = (i + j) / 2 := ⟨_, rfl⟩
      rw [← hh] at hro
      have eh := Lib.hid (show ((i : Int) + (j : Int)) / 2 = (h : Int) by omega)
      have h1 : i ≤ h := by omega
      have h2 : h < j := by omega
      clear hh
      obtain ⟨x, hx⟩ : ∃ x, x = d[h]! := ⟨_, rfl⟩
      obtain ⟨y, hy⟩ : ∃ x, x = d[a]! := ⟨_, rfl⟩
      have l1 := S1.out.cl R (by omega) h (by omega)
      have l2 := S1.out.cl R (by omega) a (by omega)
      have hc := S1.out.cmp HC.out (by omega) x y
      rw [← hx] at l1 hro
      rw [← hy] at l2 hro
      clear hx hy
      have b1 : (h : Int) < (d.size : Int) := by omega
      have b2 : (a : Int) < (d.size : Int) := by omega
      cases hlv : (ltOf cf) x y with
      | true =>
        rw [hlv, if_pos rfl] at hro
        have HR := Lib.hid hro
        clear hro
        have hv : cf x y < 0 := of_decide_eq_true hlv
        have hd : decide (cf x y < 0) = true := decide_eq_true hv
        clear hlv
        go_wp2_with fail
        rw [eh.out]
        go_quiet_grown (first | (go_at_fn g; refine Calls.grown_of (hc _ _)))
        have S2 : Aside (SW enc w0 blk off d (grow (wr.drewN nq) osq)) := S1.out.grown nq osq
        clear l1 l2 hc S1
        generalize grow (wr.drewN nq) osq = w2 at S2 ⊢
        clear nq osq
        go_wp2
        go_roundg gk1
        case measure => omega
        case rel => exact ⟨h + 1, j, by go_num, rfl, by omega, by omega, by omega, by omega, S2, (show Hid _ from HR.out)⟩
      | false =>
        rw [hlv, if_neg (by decide)] at hro
        have HR := Lib.hid hro
        clear hro
        have hv : ¬ cf x y < 0 := of_decide_eq_false hlv
        have hd : decide (cf x y < 0) = false := decide_eq_false hv
        clear hlv
        go_wp2_with fail
        rw [eh.out]
        go_quiet_grown (first | (go_at_fn g; refine Calls.grown_of (hc _ _)))
        have S2 : Aside (SW enc w0 blk off d (grow (wr.drewN nq) osq)) := S1.out.grown nq osq
        clear l1 l2 hc S1
        generalize grow (wr.drewN nq) osq = w2 at S2 ⊢
        clear nq osq
        go_wp2
        go_roundg gk1
        case measure => omega
        case rel => exact ⟨i, h, rfl, rfl, by omega, by omega, by omega, by omega, S2, (show Hid _ from HR.out)⟩
    · have hltz : ¬ (i : Int) < (j : Int) := by omega
      rw [if_neg hlt] at hro
      have HR := Lib.hid hro
      clear hro
      go_wp2
      go_loopg [13] (i - 1 - a) (fun gk2 vk wx => ∃ (k : Nat) (dk : Array α), vk = .int .i64 k ∧ a ≤ k ∧ k + gk2 + 1 = i ∧ dk.size = d.size ∧ Aside (SW enc w0 blk off dk wx) ∧ Hid (up gk2 k dk = up (i - 1 - a) a d))
      case atStart => exact ⟨a, d, rfl, by omega, by omega, rfl, S1, rfl⟩
      case round =>
        clear S1
        obtain ⟨k, dk, rfl, hak, hki, hsk, S2, HO⟩ := hrel
        by_cases hk : k < i - 1
        · obtain ⟨gk3, rfl⟩ : ∃ q, gk = q + 1 := ⟨gk - 1, by omega⟩
          have hkz : (k : Int) < (i : Int) - 1 := by omega
          obtain ⟨jN, hjN⟩ : ∃ q, q = k + 1 := ⟨_, rfl⟩
          have ec : ((k : Int) + 1).toNat = jN := by omega
          have pc : (0 : Int) ≤ (k : Int) + 1 := by omega
          have bc : (k : Int) + 1 < (d.size : Int) := by omega
          have ba : (k : Int) < (d.size : Int) := by omega
          have rc : IntKind.i64.wrap ((k : Int) + 1) = (k : Int) + 1 := by rw [IntKind.wrap_i64]; omega
          obtain ⟨x, hx⟩ : ∃ x, x = dk[k]! := ⟨_, rfl⟩
          obtain ⟨y, hy⟩ : ∃ x, x = dk[k + 1]! := ⟨_, rfl⟩
          have S3 : Aside (SW enc w0 blk off (swp dk k (k + 1)) ((wr.setCell ⟨blk, off + k, none⟩ (enc y)).setCell ⟨blk, off + jN, none⟩ (enc x)).drew) := by rw [hjN, hx, hy]; exact S2.out.swapped R k (k + 1) (by omega) (by omega)
          have ca := S2.out.c1 R (by omega) k (by omega)
          have cb := S2.out.c1 R (by omega) (k + 1) (by omega)
          have fa := S2.out.f1 R (by omega) k (by omega)
          have fb := S2.out.f1 R (by omega) (k + 1) (by omega)
          obtain ⟨u, cc⟩ := S2.out.c2 R (by omega) k (k + 1) (by omega) (by omega) (enc y)
          rw [← hjN] at cc
          rw [← hx] at ca
          rw [← hy, ← hjN] at cb
          rw [← hjN] at fb
          clear S2 hx hy hjN
          go_wp2_with fail
          go_big_region
          clear ca cb cc fa fb
          generalize ((wr.setCell ⟨blk, off + k, none⟩ (enc y)).setCell ⟨blk, off + jN, none⟩ (enc x)).drew = w3 at S3 ⊢
          clear ec
          go_wp2
          go_roundg gk3
          case measure => omega
          case rel => exact ⟨k + 1, swp dk k (k + 1), by go_num, by omega, by omega, by rw [size_swp]; exact hsk, S3, (show Hid _ from HO.out)⟩
        · obtain rfl : gk = 0 := by omega
          have hkz : ¬ (k : Int) < (i : Int) - 1 := by omega
          go_wp2
          (try simp only [Exit.inBlock, Exit.then])
          refine bodyPost_ret (results_none rfl _ _ _) rfl ?_
          exact ⟨rfl, by rw [← HR.out, ← HO.out]; exact S2.out⟩

set_option maxHeartbeats 8000000 in
set_option maxRecDepth 1000000 in
theorem symMerge_2 (enc : α → Value) (cf : α → α → Int) (g : Nat) (cb : Array Value) (blk off cap a m b f : Nat) (d0 d : Array α) (w0 w : World)
    (eg : ∀ args w, (callFunc g args).run Try.prog w = .ok (.enter g args) w) (hcmp : CmpLays1 Try.prog g cb enc cf blk off d0.size w0) (R : Row1 enc w0 blk off d0) (hs : d0.size = d.size) (S : SW enc w0 blk off d w)
    (ham : a + 1 < m) (hmb : m + 1 = b) (hb : b ≤ d.size) (hsz : d.size < 4611686018427387904) :
    Calls Try.prog 31 #[.slice (some ⟨blk, off, none⟩) d.size cap, .int .i64 a, .int .i64 m, .int .i64 b, .func (.func g) #[] cb] w fun e w' => e = .returned (.tuple #[]) ∧ SW enc w0 blk off (symMerge (ltOf cf) (f + 1) d a m b) w' := by
  have mixed : Try.prog.follows .mixedOrders = true := by kernel_rfl
  have hu26 := Try.underlying26
  have hcl0 := R.hO.cells
  simp only [Value.cells] at hcl0
  have hst := R.hO.store Try.prog
  have S0 : Aside (SW enc w0 blk off d w) := S
  have HC : Aside _ := hcmp
  clear S hcmp
  have E : symMerge (ltOf cf) (f + 1) d a m b = down (m - bsR (ltOf cf) m d (m - a + 1) a m) m d := by rw [symMerge, if_neg (by omega), if_pos (by omega)]
  rw [E]
  clear E
  have k1 : ((m : Int) - (a : Int) == 1) = false := by simp; omega
  have k2 : ((b : Int) - (m : Int) == 1) = true := by simp; omega
  go_enter Try.func31, Try.ntmps31
  go_wp2
  go_loopg [14, 15] (m - a + 1) (fun gk vi vj wr => ∃ (i j : Nat), vi = .int .i64 i ∧ vj = .int .i64 j ∧ a ≤ i ∧ i ≤ j ∧ j ≤ m ∧ j - i < gk ∧ Aside (SW enc w0 blk off d wr) ∧ Hid (bsR (ltOf cf) m d gk i j = bsR (ltOf cf) m d (m - a + 1) a m))
  case atStart => exact ⟨a, m, rfl, rfl, by omega, by omega, by omega, by omega, S0, rfl⟩
  case round =>
    clear S0
    obtain ⟨i, j, rfl, rfl, hmi, hij, hjb, hg, S1, HO⟩ := hrel
    obtain ⟨gk1, rfl⟩ : ∃ q, gk = q + 1 := ⟨gk - 1, by omega⟩
    have hro := HO.out
    rw [bsR] at hro
    clear HO
    by_cases hlt : i < j
    · have hltz : (i : Int) < (j : Int) := by omega
      rw [if_pos hlt] at hro
      obtain ⟨h, hh⟩ : ∃ h, h = (i + j) / 2 := ⟨_, rfl⟩
      rw [← hh] at hro
      have eh := Lib.hid (show ((i : Int) + (j : Int)) / 2 = (h : Int) by omega)
      have h1 : i ≤ h := by omega
      have h2 : h < j := by omega
      clear hh
      obtain ⟨x, hx⟩ : ∃ x, x = d[m]! := ⟨_, rfl⟩
      obtain ⟨y, hy⟩ : ∃ x, x = d[h]! := ⟨_, rfl⟩
      have l1 := S1.out.cl R (by omega) m (by omega)
      have l2 := S1.out.cl R (by omega) h (by omega)
      have hc := S1.out.cmp HC.out (by omega) x y
      rw [← hx] at l1 hro
      rw [← hy] at l2 hro
      clear hx hy
      have b1 : (h : Int) < (d.size : Int) := by omega
      have b2 : (m : Int) < (d.size : Int) := by omega
      cases hlv : (ltOf cf) x y with
      | true =>
        rw [hlv, if_pos rfl] at hro
        have HR := Lib.hid hro
        clear hro
        have hv : cf x y < 0 := of_decide_eq_true hlv
        have hd : decide (cf x y < 0) = true := decide_eq_true hv
        clear hlv
        go_wp2_with fail
        rw [eh.out]
        go_quiet_grown (first | (go_at_fn g; refine Calls.grown_of (hc _ _)))
        have S2 : Aside (SW enc w0 blk off d (grow (wr.drewN nq) osq)) := S1.out.grown nq osq
        clear l1 l2 hc S1
        generalize grow (wr.drewN nq) osq = w2 at S2 ⊢
        clear nq osq
        go_wp2
        go_roundg gk1
        case measure => omega
        case rel => exact ⟨i, h, rfl, rfl, by omega, by omega, by omega, by omega, S2, (show Hid _ from HR.out)⟩
      | false =>
        rw [hlv, if_neg (by decide)] at hro
        have HR := Lib.hid hro
        clear hro
        have hv : ¬ cf x y < 0 := of_decide_eq_false hlv
        have hd : decide (cf x y < 0) = false := decide_eq_false hv
        clear hlv
        go_wp2_with fail
        rw [eh.out]
        go_quiet_grown (first | (go_at_fn g; refine Calls.grown_of (hc _ _)))
        have S2 : Aside (SW enc w0 blk off d (grow (wr.drewN nq) osq)) := S1.out.grown nq osq
        clear l1 l2 hc S1
        generalize grow (wr.drewN nq) osq = w2 at S2 ⊢
        clear nq osq
        go_wp2
        go_roundg gk1
        case measure => omega
        case rel => exact ⟨h + 1, j, by go_num, rfl, by omega, by omega, by omega, by omega, S2, (show Hid _ from HR.out)⟩
    · have hltz : ¬ (i : Int) < (j : Int) := by omega
      rw [if_neg hlt] at hro
      have HR := Lib.hid hro
      clear hro
      go_wp2
      go_loopg [17] (m - i) (fun gk2 vk wx => ∃ (k : Nat) (dk : Array α), vk = .int .i64 k ∧ k = i + gk2 ∧ k ≤ m ∧ dk.size = d.size ∧ Aside (SW enc w0 blk off dk wx) ∧ Hid (down gk2 k dk = down (m - i) m d))
      case atStart => exact ⟨m, d, rfl, by omega, by omega, rfl, S1, rfl⟩
      case round =>
        clear S1
        obtain ⟨k, dk, rfl, hki, hkm, hsk, S2, HO⟩ := hrel
        by_cases hk : i < k
        · obtain ⟨gk3, rfl⟩ : ∃ q, gk = q + 1 := ⟨gk - 1, by omega⟩
          obtain ⟨kp, hkp⟩ : ∃ q, q + 1 = k := ⟨k - 1, by omega⟩
          have zjp : (k : Int) = (kp : Int) + 1 := by omega
          have hjad : decide ((kp : Int) + 1 > (i : Int)) = true := decide_eq_true (by omega)
          have hjaz' : (i : Int) < (kp : Int) + 1 := by omega
          obtain ⟨jN, hjN⟩ : ∃ q, q = k := ⟨_, rfl⟩
          have ec : ((kp : Int) + 1).toNat = jN := by omega
          have pc : (0 : Int) ≤ (kp : Int) + 1 := by omega
          have bc : (kp : Int) + 1 < (d.size : Int) := by omega
          have ba : (kp : Int) < (d.size : Int) := by omega
          have rc : IntKind.i64.wrap ((kp : Int) + 1) = (kp : Int) + 1 := by rw [IntKind.wrap_i64]; omega
          have rp : IntKind.i64.wrap (kp : Int) = (kp : Int) := by rw [IntKind.wrap_i64]; omega
          obtain ⟨x, hx⟩ : ∃ x, x = dk[k]! := ⟨_, rfl⟩
          obtain ⟨y, hy⟩ : ∃ x, x = dk[k - 1]! := ⟨_, rfl⟩
          have S3 : Aside (SW enc w0 blk off (swp dk k (k - 1)) ((wr.setCell ⟨blk, off + jN, none⟩ (enc y)).setCell ⟨blk, off + kp, none⟩ (enc x)).drew) := by
            have e : kp = k - 1 := by omega
            rw [hjN, hx, hy, e]; exact S2.out.swapped R k (k - 1) (by omega) (by omega)
          have e1 : k - 1 = kp := by omega
          have ca := S2.out.c1 R (by omega) k (by omega)
          have cb := S2.out.c1 R (by omega) (k - 1) (by omega)
          have fa := S2.out.f1 R (by omega) k (by omega)
          have fb := S2.out.f1 R (by omega) (k - 1) (by omega)
          obtain ⟨u, cc⟩ := S2.out.c2 R (by omega) k (k - 1) (by omega) (by omega) (enc y)
          rw [e1, ← hjN] at cc
          rw [← hx, ← hjN] at ca
          rw [← hy, e1] at cb
          rw [← hjN] at fa
          rw [e1] at fb
          have HK := Lib.hid hki
          clear S2 hx hy hjN e1 hki
          go_wp2_with fail
          go_big_region
          clear ca cb cc fa fb
          generalize ((wr.setCell ⟨blk, off + jN, none⟩ (enc y)).setCell ⟨blk, off + kp, none⟩ (enc x)).drew = w3 at S3 ⊢
          clear ec
          go_wp2
          go_roundg gk3
          case measure => omega
          case rel => exact ⟨k - 1, swp dk k (k - 1), by first | rfl | go_num | (congr 1; omega), by have := HK.out; omega, by omega, by rw [size_swp]; exact hsk, S3, (show Hid _ from HO.out)⟩
        · obtain rfl : gk = 0 := by omega
          have hkz : ¬ (i : Int) < (k : Int) := by omega
          have hkd : decide ((k : Int) > (i : Int)) = false := decide_eq_false (by omega)
          have HK := Lib.hid hki
          clear hki
          go_wp2
          (try simp only [Exit.inBlock, Exit.then])
          refine bodyPost_ret (results_none rfl _ _ _) rfl ?_
          exact ⟨rfl, by rw [← HR.out, ← HO.out]; exact S2.out⟩
end Go.Proofs.Ytmhkemgbienfiaa.Sets
