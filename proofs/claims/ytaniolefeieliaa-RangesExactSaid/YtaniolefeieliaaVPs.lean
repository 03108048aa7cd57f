/- The plain law of Unpack: the numbers one after another; when a table is right. -/
import Derived.Test.YtaniolefeieliaaVPr
namespace Go.Proofs.Ytaniolefeieliaa.Pk
open Go.RowKit Go.Proofs.YtaniolefeieliaaW.PrintWords Go.Proofs.YtaniolefeieliaaW.PrintLast
open Go.Proofs Go.Proofs.Ytaniolefeieliaa.Base
set_option linter.unusedVariables false
set_option linter.unusedSimpArgs false
set_option maxHeartbeats 1000000
def unpA (V : Int → Int) : Nat → Int → List S44 → List S44
  | 0, _, acc => acc
  | d + 1, c, acc => unpA V d (c + 1) (unp1 acc c (V c))
theorem unp1_len (acc : List S44) (c v : Int) : acc.length ≤ (unp1 acc c v).length ∧ (unp1 acc c v).length ≤ acc.length + 1 := by
  unfold unp1
  split
  · omega
  · split
    · rw [List.length_set]; omega
    · rw [List.length_append, List.length_singleton]; omega
theorem unpA_len (V : Int → Int) : ∀ (d : Nat) (c : Int) (acc : List S44), acc.length ≤ (unpA V d c acc).length
  | 0, _, _ => Nat.le_refl _
  | d + 1, c, acc => Nat.le_trans (unp1_len acc c (V c)).1 (unpA_len V d (c + 1) _)
theorem unpA_add (V : Int → Int) : ∀ (a b : Nat) (c : Int) (acc : List S44), unpA V (a + b) c acc = unpA V b (c + (a : Int)) (unpA V a c acc)
  | 0, b, c, acc => by
    rw [Nat.zero_add, show c + ((0 : Nat) : Int) = c by omega]
    rfl
  | a + 1, b, c, acc => by
    rw [show a + 1 + b = (a + b) + 1 by omega]
    show unpA V (a + b) (c + 1) _ = unpA V b _ (unpA V a (c + 1) _)
    rw [unpA_add V a b, show c + 1 + (a : Int) = c + ((a + 1 : Nat) : Int) by omega]
theorem right_of (l : List S44) (hh : ∀ j (h : j < l.length), okS l[j] ∧ ∀ (h0 : 0 < j), (l[j - 1]).f1 < (l[j]).f0) : Right l := by
  refine ⟨fun x hx => ?_, ?_⟩
  · obtain ⟨j, hj, rfl⟩ := List.getElem_of_mem hx
    exact (hh j hj).1
  · refine List.pairwise_iff_getElem.2 (fun i j hi hj hij => ?_)
    have key : ∀ d i (hi : i < l.length) (hd : i + d + 1 < l.length), (l[i]).f1 < (l[i + d + 1]).f0 := by
      intro d
      induction d with
      | zero => intro i hi hd; exact (hh (i + 1) hd).2 (by omega)
      | succ d ih =>
        intro i hi hd
        have h1 := ih i hi (by omega)
        have h2 := (hh (i + d + 1) (by omega)).1
        have h3 := (hh (i + (d + 1) + 1) hd).2 (by omega)
        have e : i + (d + 1) + 1 - 1 = i + d + 1 := by omega
        simp only [e] at h3
        unfold okS at h2
        omega
    have := key (j - i - 1) i hi (by omega)
    simpa only [show i + (j - i - 1) + 1 = j by omega] using this
theorem idx_first (b : List Int) : ∀ (bs : List (List Int)) (q : Nat) (hq : q < bs.length), bs[q] = b → b ∉ bs.take q → bs.idxOf b = q
  | [], q, hq, _, _ => absurd hq (Nat.not_lt_zero _)
  | x :: r, 0, _, h, _ => by
    rw [List.getElem_cons_zero] at h
    rw [h, List.idxOf_cons_self]
  | x :: r, q + 1, hq, h, hn => by
    rw [List.getElem_cons_succ] at h
    rw [List.take_succ_cons, List.mem_cons, not_or] at hn
    rw [List.idxOf_cons, show (x == b) = false from by simpa using Ne.symm hn.1, idx_first b r q (by simpa using hq) h hn.2]
    rfl
theorem val_take (L : List S44) (i : Nat) (h : i < L.length) (c : Int) : valF (L.take (i + 1)) c = if (L[i]).f0 ≤ c ∧ c ≤ (L[i]).f1 then (L[i]).f2 else valF (L.take i) c := by
  unfold valF
  rw [← List.take_append_getElem h, List.foldl_append]
  rfl
theorem val_rest {L : List S44} (hR : Right L) (i : Nat) (h : i < L.length) (c : Int) (hc : c < (L[i]).f0) : valF L c = valF (L.take i) c := by
  have e : L = L.take i ++ L.drop i := (List.take_append_drop i L).symm
  have hk : ∀ x ∈ L.drop i, ¬ (x.f0 ≤ c ∧ c ≤ x.f1) := by
    intro x hx
    obtain ⟨j, hj, rfl⟩ := List.getElem_of_mem hx
    rw [List.length_drop] at hj
    rw [List.getElem_drop]
    by_cases q : j = 0
    · subst q
      simp only [Nat.add_zero]
      omega
    · have h1 := (List.pairwise_iff_getElem.1 hR.2) i (i + j) h (by omega) (by omega)
      have h2 := hR.1 _ (List.getElem_mem h)
      unfold okS at h2
      omega
  calc valF L c = valF (L.take i ++ L.drop i) c := by rw [← e]
    _ = (L.drop i).foldl _ (valF (L.take i) c) := by unfold valF; rw [List.foldl_append]
    _ = valF (L.take i) c := foldl_keep c _ _ hk
theorem block_is (L : List S44) (lo : Int) (blk : List Int) (hb : blk.length = 256) (h : ∀ r : Nat, r < 256 → blk[r]? = some (valF L (lo + (r : Int)))) : blk = blockF L lo := by
  apply List.ext_getElem?
  intro r
  by_cases hr : r < 256
  · rw [h r hr, block_at L lo r hr]
  · rw [List.getElem?_eq_none (by omega), List.getElem?_eq_none (by rw [block_len]; omega)]
theorem put_flat (bs : List (List Int)) (b : List Int) (h : b ∉ bs) : (put1 bs b).flatten = bs.flatten ++ b := by
  unfold put1
  rw [if_neg h, List.flatten_append]
  simp
theorem pack_step (L : List S44) (d kk : Nat) (ix : List Int) (bs : List (List Int)) : packGo (d + 1) L kk ix bs = packGo d L (kk + 1) (ix ++ [((bs.idxOf (blockF L (256 * (kk : Int))) : Nat) : Int)]) (put1 bs (blockF L (256 * (kk : Int)))) := by
  rw [packGo]
  exact go_same d (kk + 1) _ _ _ _ (fun c hc => trim_val _ _ _ (by omega))
end Go.Proofs.Ytaniolefeieliaa.Pk
