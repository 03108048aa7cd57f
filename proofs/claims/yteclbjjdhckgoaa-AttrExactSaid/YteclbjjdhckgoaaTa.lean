/- Base of chapter 22's last statement: a string's runes; kinds of which only the size is told. -/
import Derived.Test.YteclbjjdhckgoaaProg
import Derived.Test.YteclbjjdhckgoaaWMore
import Derived.Test.YteclbjjdhckgoaaWNEv
import Derived.Test.YteclbjjdhckgoaaWInvWords
import Derived.WalkKit
import Derived.ProofKit
import Derived.Laws.RangeAny
import Derived.Lib.OthersKept
import Derived.Lib.TrimU
namespace Go.Proofs.Yteclbjjdhckgoaa.Tb
open Go.Proofs.YteclbjjdhckgoaaW.PrintWords Go.Proofs.YteclbjjdhckgoaaW.PrintLast Go.Proofs.YteclbjjdhckgoaaW.PrintMore
open Go.RowKit Go.Proofs
set_option linter.unusedVariables false
set_option linter.unusedSimpArgs false
/-- A kind of which only the number of cells is told. -/
def anyK (n : Nat) : Kd Unit where
  sz := n
  E := []
  K := fun _ _ cs => cs.length = n ∧ ∀ u ∈ cs, u.oneCell' = true
  M := fun _ _ _ _ cs => cs.length = n ∧ ∀ u ∈ cs, u.oneCell' = true
  K_len := fun h => h.1
  K_one := fun h => h.2
  K_below := fun _ h => h
  K_of_M := fun h => h
  M_mono := fun _ h => h
  M_bound := fun h => h
  M_move := fun _ h => h
  M_lower := fun _ h => h
/-- The scalars of a string from a place on. -/
def runesF (s : ByteArray) : Nat → Nat → List Int
  | 0, _ => []
  | k + 1, pos => if pos < s.size then ((Utf8.decode s pos).1 : Int) :: runesF s k (pos + (Utf8.decode s pos).2) else []
def runesO (s : ByteArray) : Option (List Int) := if s.size ≤ 100000 then some (runesF s s.size 0) else none
theorem R_iter {d : Kd Int} {w : World} {base e g p q : Nat} {s : ByteArray} {v : Value} {xs : List Int} (h : d.R e w base (fun k => k ≠ g) v xs) : d.R e (w.iterAt g s q) base (fun k => k ≠ g) v xs :=
  Kd.R_move h (fun k hk => Lib.iterAt_other w g k s q hk)
theorem i3 : (Try.prog.info? 3).map (fun i => (i.zero, i.size, i.bytes)) = some (some (.int .i64 0), 1, 8) := by kernel_rfl
set_option maxRecDepth 100000 in
theorem runes_calls (a0 : ByteArray) (r : List Int) (w : World) (h : runesO a0 = some r) :
    Calls Try.prog 41 #[.string a0] w fun e w' => ∃ v0_ : Value, e = .returned (v0_) ∧ Kd.R (Kd.int .i64) 3 w' w.heap.size (fun _ => True) v0_ r ∧ Below w.heap.size w w' := by
  unfold runesO at h
  by_cases hs : a0.size ≤ 100000
  case neg => rw [if_neg hs] at h; cases h
  rw [if_pos hs] at h
  obtain rfl := Option.some.inj h
  clear h
  go_enter Try.func41, Try.ntmps41
  go_wp2
  go_loopg [3] a0.size (fun gf s3 wx => ∃ (pos : Nat) (acc : List Int), Kd.R (Kd.int .i64) 3 wx w.heap.size (fun k => k ≠ w.heap.size) s3 acc ∧ wx.heap[w.heap.size]? = some (.stringIter a0 pos) ∧ Below w.heap.size w wx ∧ acc ++ runesF a0 gf pos = runesF a0 a0.size 0 ∧ a0.size ≤ pos + gf ∧ acc.length ≤ pos ∧ acc.length + gf ≤ a0.size)
  case atStart =>
    exact ⟨0, [], Kd.R_nil _ _ _ _ _, World.iter_heap w a0 0, below_alloc (Below.refl _ _) _, rfl, by omega, Nat.le_refl _, by simp⟩
  case round =>
    obtain ⟨pos, acc, hR, hit, hbw, hru, hfu, hal, hag⟩ := hrel
    by_cases hlt : pos < a0.size
    · obtain ⟨g', rfl⟩ : ∃ g', gk = g' + 1 := ⟨gk - 1, by omega⟩
      have hnx : ∀ ty, (Instr.next (.pointer (some ⟨w.heap.size, 0, none⟩)) true ty).run Try.prog wr = _ := fun ty => Lib.run_next_any_at wr w.heap.size a0 pos ty hit hlt
      have hwd := Lib.width_pos a0 pos
      obtain ⟨c, hc⟩ : ∃ c, (Utf8.decode a0 pos).1 = c := ⟨_, rfl⟩
      obtain ⟨d, hd⟩ : ∃ d, (Utf8.decode a0 pos).2 = d := ⟨_, rfl⟩
      have hc2 := decode_le a0 pos
      rw [hc, hd] at hnx
      rw [hd] at hwd
      rw [hc] at hc2
      rw [runesF, if_pos hlt, hc, hd] at hru
      have hit2 := Lib.iterAt_heap wr w.heap.size a0 pos (pos + d) hit
      have hbw2 := Lib.below_iterAt hbw (k := w.heap.size) (Nat.le_refl _) a0 (pos + d)
      have hR2 := R_iter (p := pos) (q := pos + d) (s := a0) hR
      obtain ⟨W, hWd⟩ : ∃ W, wr.iterAt w.heap.size a0 (pos + d) = W := ⟨_, rfl⟩
      rw [hWd] at hnx hit2 hbw2 hR2
      have hlW : w.heap.size < W.heap.size := (Array.getElem?_eq_some_iff.1 hit2).1
      clear hR hit hbw
      go_wp2_with ((with_reducible refine gate_builtin (b := .append) (xs := #[.tmp 11, .tmp 14]) rfl ?_); at_builtin; refine Kd.R_append (Kd.int .i64) (w0 := w) w.heap.size rfl (.tmp 11) (.tmp 14) 25 3 (.int .i64 0) 8 rfl Try.underlying25 i3 rfl (by decide) (by decide) u3 acc (c : Int) [.int .i64 c] (fun k => k ≠ w.heap.size) (fun _ => False) rfl rfl rfl (fun _ hk => hk.elim) (fun k hk => by omega) hR2 hbw2 (by omega) (by omega) ?_; intro v1 w1 ho hb hg hat)
      go_roundg g'
      case measure => omega
      case rel =>
        refine ⟨pos + d, acc ++ [(c : Int)], ho, ?_, hb, ?_, by omega, ?_, ?_⟩
        · exact (hg.block w.heap.size hlW (fun e => hR2.1 _ e.symm rfl)).trans hit2
        · rw [List.append_assoc]; exact hru
        · rw [List.length_append, List.length_singleton]; omega
        · rw [List.length_append, List.length_singleton]; omega
    · have hnx : ∀ ty, (Instr.next (.pointer (some ⟨w.heap.size, 0, none⟩)) true ty).run Try.prog wr = _ := fun ty => Lib.run_next_end_at wr w.heap.size a0 pos ty hit hlt
      have hru2 : acc = runesF a0 a0.size 0 := by
        rw [← hru]
        cases gk with
        | zero => rw [runesF, List.append_nil]
        | succ g => rw [runesF, if_neg hlt, List.append_nil]
      go_wp2
      go_ret
      subst hru2
      exact ⟨_, rfl, Kd.R_mono hR (fun _ _ => trivial), hbw⟩
end Go.Proofs.Yteclbjjdhckgoaa.Tb
