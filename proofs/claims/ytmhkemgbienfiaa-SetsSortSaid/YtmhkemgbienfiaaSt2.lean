/- The walks of Go's stable sort (slices.stableCmpFunc and what it calls), at elements of one cell: each leaves the row as its plain function says. -/
import Derived.Test.YtmhkemgbienfiaaProg
import Derived.Test.YtmhkemgbienfiaaSt1
import Derived.Shelf.SlSortCmp.Insertion1
import Derived.Lib.Hide
set_option linter.unusedVariables false
set_option linter.unusedSimpArgs false
set_option linter.unusedSectionVars false
namespace Go.Proofs.Ytmhkemgbienfiaa.Sets
open Go.Shelf Go.RowKit Go.Lib Go.Sort Go.Proofs
theorem size_swapR {α : Type} [Inhabited α] (a b : Nat) : ∀ (k i : Nat) (d : Array α), (swapR a b k i d).size = d.size
  | 0, _, _ => rfl
  | k + 1, i, d => by rw [swapR, size_swapR a b k, size_swp]
theorem size_rot {α : Type} [Inhabited α] (m : Nat) : ∀ (f i j : Nat) (d : Array α), (rot m f i j d).size = d.size
  | 0, _, _, _ => rfl
  | f + 1, i, j, d => by
    rw [rot]
    split
    · exact size_swapR _ _ _ _ _
    · split
      · rw [size_rot, size_swapR]
      · rw [size_rot, size_swapR]
variable {α : Type} [Inhabited α]

set_option maxHeartbeats 4000000 in
set_option maxRecDepth 1000000 in
theorem swapRange_s (enc : α → Value) (blk off cap a b n : Nat) (d0 d : Array α) (w0 w : World) (fv : Value) (R : Row1 enc w0 blk off d0) (hs : d0.size = d.size) (S : SW enc w0 blk off d w) (ha : a + n ≤ d.size) (hb : b + n ≤ d.size) (hsz : d.size < 4611686018427387904) :
    Calls Try.prog 33 #[.slice (some ⟨blk, off, none⟩) d.size cap, .int .i64 a, .int .i64 b, .int .i64 n, fv] w fun e w' => e = .returned (.tuple #[]) ∧ SW enc w0 blk off (swapR a b n 0 d) w' := by
  have hu26 := Try.underlying26
  have hcl0 := R.hO.cells
  simp only [Value.cells] at hcl0
  have hst := R.hO.store Try.prog
  have S0 : Aside (SW enc w0 blk off d w) := S
  clear S
  go_enter Try.func33, Try.ntmps33
  go_wp2
  go_loopg [10] n (fun gk vi wr => ∃ (i : Nat) (dk : Array α), vi = .int .i64 i ∧ i + gk = n ∧ dk.size = d.size ∧ Aside (SW enc w0 blk off dk wr) ∧ Hid (swapR a b gk i dk = swapR a b n 0 d))
  case atStart => exact ⟨0, d, rfl, by omega, rfl, S0, rfl⟩
  case round =>
    clear S0
    obtain ⟨i, dk, rfl, hik, hsk, S1, HO⟩ := hrel
    by_cases hlt : i < n
    · have hltz : (i : Int) < (n : Int) := by omega
      obtain ⟨gk1, rfl⟩ : ∃ q, gk = q + 1 := ⟨gk - 1, by omega⟩
      obtain ⟨iN, hiN⟩ : ∃ q, q = a + i := ⟨_, rfl⟩
      obtain ⟨jN, hjN⟩ : ∃ q, q = b + i := ⟨_, rfl⟩
      have ea : ((a : Int) + (i : Int)).toNat = iN := by omega
      have pa : (0 : Int) ≤ (a : Int) + (i : Int) := by omega
      have ba : (a : Int) + (i : Int) < (d.size : Int) := by omega
      have ra : IntKind.i64.wrap ((a : Int) + (i : Int)) = (a : Int) + (i : Int) := by rw [IntKind.wrap_i64]; omega
      have ec : ((b : Int) + (i : Int)).toNat = jN := by omega
      have pc : (0 : Int) ≤ (b : Int) + (i : Int) := by omega
      have bc : (b : Int) + (i : Int) < (d.size : Int) := by omega
      have rc : IntKind.i64.wrap ((b : Int) + (i : Int)) = (b : Int) + (i : Int) := by rw [IntKind.wrap_i64]; omega
      obtain ⟨x, hx⟩ : ∃ x, x = dk[a + i]! := ⟨_, rfl⟩
      obtain ⟨y, hy⟩ : ∃ x, x = dk[b + i]! := ⟨_, rfl⟩
      have S3 : Aside (SW enc w0 blk off (swp dk (a + i) (b + i)) ((wr.setCell ⟨blk, off + iN, none⟩ (enc y)).setCell ⟨blk, off + jN, none⟩ (enc x)).drew) := by rw [hiN, hjN, hx, hy]; exact S1.out.swapped R (a + i) (b + i) (by omega) (by omega)
      have ca := S1.out.c1 R (by omega) (a + i) (by omega)
      have cb := S1.out.c1 R (by omega) (b + i) (by omega)
      have fa := S1.out.f1 R (by omega) (a + i) (by omega)
      have fb := S1.out.f1 R (by omega) (b + i) (by omega)
      obtain ⟨u, cc⟩ := S1.out.c2 R (by omega) (a + i) (b + i) (by omega) (by omega) (enc y)
      rw [← hjN, ← hiN] at cc
      rw [← hx, ← hiN] at ca
      rw [← hy, ← hjN] at cb
      rw [← hiN] at fa
      rw [← hjN] at fb
      clear S1 hx hy hiN hjN
      go_wp2_with fail
      go_big_region
      clear ca cb cc fa fb
      generalize ((wr.setCell ⟨blk, off + iN, none⟩ (enc y)).setCell ⟨blk, off + jN, none⟩ (enc x)).drew = w3 at S3 ⊢
      clear ea ec
      go_wp2
      go_roundg gk1
      case measure => omega
      case rel => exact ⟨i + 1, swp dk (a + i) (b + i), by go_num, by omega, by rw [size_swp]; exact hsk, S3, (show Hid _ from HO.out)⟩
    · have hltz : ¬ (i : Int) < (n : Int) := by omega
      obtain rfl : gk = 0 := by omega
      go_wp2
      go_end0
      exact ⟨rfl, by rw [← HO.out]; exact S1.out⟩

set_option maxHeartbeats 4000000 in
set_option maxRecDepth 1000000 in
theorem rotate_s (enc : α → Value) (blk off cap a m b : Nat) (d0 d : Array α) (w0 w : World) (fv : Value) (R : Row1 enc w0 blk off d0) (hs : d0.size = d.size) (S : SW enc w0 blk off d w) (ham : a < m) (hmb : m < b) (hb : b ≤ d.size) (hsz : d.size < 4611686018427387904) :
    Calls Try.prog 32 #[.slice (some ⟨blk, off, none⟩) d.size cap, .int .i64 a, .int .i64 m, .int .i64 b, fv] w fun e w' => e = .returned (.tuple #[]) ∧ SW enc w0 blk off (rot m (b - a) (m - a) (b - m) d) w' := by
  have hu26 := Try.underlying26
  have S0 : Aside (SW enc w0 blk off d w) := S
  clear S
  have e1 : (m : Int) - (a : Int) = ((m - a : Nat) : Int) := by omega
  have e2 : (b : Int) - (m : Int) = ((b - m : Nat) : Int) := by omega
  have E1 := Lib.hid e1
  have E2 := Lib.hid e2
  clear e1 e2
  go_enter Try.func32, Try.ntmps32
  go_wp2
  go_loopg [10, 11] (b - a) (fun gk vi vj wr => ∃ (i j : Nat) (dk : Array α), vi = .int .i64 i ∧ vj = .int .i64 j ∧ 0 < i ∧ 0 < j ∧ i ≤ m ∧ m + j ≤ b ∧ i + j ≤ gk ∧ dk.size = d.size ∧ Aside (SW enc w0 blk off dk wr) ∧ Hid (rot m gk i j dk = rot m (b - a) (m - a) (b - m) d))
  case atStart => exact ⟨m - a, b - m, d, by rw [← E1.out], by rw [← E2.out], by omega, by omega, by omega, by omega, by omega, rfl, S0, rfl⟩
  case round =>
    clear S0
    obtain ⟨i, j, dk, rfl, rfl, hi, hj, him, hjb, hg, hsk, S1, HO⟩ := hrel
    obtain ⟨gk1, rfl⟩ : ∃ q, gk = q + 1 := ⟨gk - 1, by omega⟩
    have hro := HO.out
    rw [rot] at hro
    clear HO
    by_cases he : i = j
    · subst he
      rw [if_pos rfl] at hro
      have HR := Lib.hid hro
      clear hro
      have hc := swapRange_s enc blk off cap (m - i) m i d0 dk w0 wr fv R (by omega) S1.out (by omega) (by omega) (by omega)
      rw [show ((m - i : Nat) : Int) = (m : Int) - (i : Int) by omega, hsk, HR.out] at hc
      have n1 : ((i : Int) != (i : Int)) = false := by simp
      clear S1
      go_wp2_with (go_at_call 33; (with_reducible refine hc.mono ?_); rintro e w1 ⟨rfl, S2⟩)
      go_end0
      exact ⟨rfl, S2⟩
    · rw [if_neg he] at hro
      have n1 : ((i : Int) != (j : Int)) = true := by simp; omega
      by_cases hij : i > j
      · rw [if_pos hij] at hro
        have HR := Lib.hid hro
        clear hro
        have hc := swapRange_s enc blk off cap (m - i) m j d0 dk w0 wr fv R (by omega) S1.out (by omega) (by omega) (by omega)
        rw [show ((m - i : Nat) : Int) = (m : Int) - (i : Int) by omega, hsk] at hc
        have hsz2 := size_swapR (m - i) m j 0 dk
        have t1 : decide ((i : Int) > (j : Int)) = true := decide_eq_true (by omega)
        have t2 : (j : Int) < (i : Int) := by omega
        have e3 := Lib.hid (show (i : Int) - (j : Int) = ((i - j : Nat) : Int) by omega)
        have HS := Lib.hid hsz2
        clear S1 hsz2 he
        go_wp2_with (go_at_call 33; (with_reducible refine hc.mono ?_); rintro e w1 ⟨rfl, S2⟩; have S3 : Aside _ := S2; clear S2)
        go_roundg gk1
        case measure => omega
        case rel => exact ⟨i - j, j, swapR (m - i) m j 0 dk, by rw [← e3.out], rfl, by omega, by omega, by omega, by omega, by omega, by rw [HS.out]; exact hsk, S3, (show Hid _ from HR.out)⟩
      · rw [if_neg hij] at hro
        have HR := Lib.hid hro
        clear hro
        have hc := swapRange_s enc blk off cap (m - i) (m + j - i) i d0 dk w0 wr fv R (by omega) S1.out (by omega) (by omega) (by omega)
        rw [show ((m - i : Nat) : Int) = (m : Int) - (i : Int) by omega, show ((m + j - i : Nat) : Int) = (m : Int) + (j : Int) - (i : Int) by omega, hsk] at hc
        have hsz2 := size_swapR (m - i) (m + j - i) i 0 dk
        have t1 : decide ((i : Int) > (j : Int)) = false := decide_eq_false (by omega)
        have t2 : ¬ (j : Int) < (i : Int) := by omega
        have t3 : i < j := by omega
        have e3 := Lib.hid (show (j : Int) - (i : Int) = ((j - i : Nat) : Int) by omega)
        have HS := Lib.hid hsz2
        clear S1 hsz2 he
        go_wp2_with (go_at_call 33; (with_reducible refine hc.mono ?_); rintro e w1 ⟨rfl, S2⟩; have S3 : Aside _ := S2; clear S2)
        go_roundg gk1
        case measure => omega
        case rel => exact ⟨i, j - i, swapR (m - i) (m + j - i) i 0 dk, rfl, by rw [← e3.out], by omega, by omega, by omega, by omega, by omega, by rw [HS.out]; exact hsk, S3, (show Hid _ from HR.out)⟩
end Go.Proofs.Ytmhkemgbienfiaa.Sets
