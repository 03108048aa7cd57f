/- The plain law of Pack: its blocks are all different, in the order of their first use, and few. -/
import Derived.Test.YtaniolefeieliaaVPp
namespace Go.Proofs.Ytaniolefeieliaa.Pk
open Go.RowKit Go.Proofs.YtaniolefeieliaaW.PrintWords Go.Proofs.YtaniolefeieliaaW.PrintLast
open Go.Proofs Go.Proofs.Ytaniolefeieliaa.Base
set_option linter.unusedVariables false
set_option linter.unusedSimpArgs false
set_option maxHeartbeats 1000000
theorem put_nodup {bs : List (List Int)} (h : bs.Nodup) (b : List Int) : (put1 bs b).Nodup := by
  unfold put1
  by_cases hb : b ∈ bs
  · rw [if_pos hb]; exact h
  · rw [if_neg hb]
    refine List.pairwise_append.2 ⟨h, List.pairwise_singleton _ _, fun a ha c hc => ?_⟩
    rw [List.mem_singleton.1 hc]
    exact fun e => hb (e ▸ ha)
theorem go_nodup : ∀ (d i : Nat) (l : List S44) (ix : List Int) (bs : List (List Int)), bs.Nodup → (packGo d l i ix bs).2.Nodup
  | 0, _, _, _, _, h => h
  | d + 1, i, l, ix, bs, h => by
    rw [packGo]
    exact go_nodup d (i + 1) _ _ _ (put_nodup h _)
theorem go_blocks (L : List S44) : ∀ (d i : Nat) (l : List S44) (ix : List Int) (bs : List (List Int)), (∀ c : Int, 256 * (i : Int) ≤ c → valF l c = valF L c) → (∀ b ∈ bs, ∃ j : Nat, b = blockF L (256 * (j : Int))) → ∀ b ∈ (packGo d l i ix bs).2, ∃ j : Nat, b = blockF L (256 * (j : Int))
  | 0, _, _, _, _, _, h => h
  | d + 1, i, l, ix, bs, hv, h => by
    rw [packGo]
    refine go_blocks L d (i + 1) _ _ _ (fun c hc => ?_) (fun b hb => ?_)
    · rw [trim_val _ _ _ (by omega)]
      exact hv c (by omega)
    · unfold put1 at hb
      split at hb
      · exact h b hb
      · rcases List.mem_append.1 hb with hb | hb
        · exact h b hb
        · exact ⟨i, by rw [List.mem_singleton.1 hb]; exact block_same hv⟩
theorem go_ixlen : ∀ (d i : Nat) (l : List S44) (ix : List Int) (bs : List (List Int)), (packGo d l i ix bs).1.length = ix.length + d
  | 0, _, _, _, _ => rfl
  | d + 1, i, l, ix, bs => by
    rw [packGo, go_ixlen d (i + 1) _ _ _, List.length_append, List.length_singleton]
    omega
theorem go_prefix : ∀ (d i : Nat) (l : List S44) (ix : List Int) (bs : List (List Int)), ∃ r, (packGo d l i ix bs).1 = ix ++ r
  | 0, _, _, ix, _ => ⟨[], (List.append_nil ix).symm⟩
  | d + 1, i, l, ix, bs => by
    rw [packGo]
    obtain ⟨r, hr⟩ := go_prefix d (i + 1) (trimF l (256 * (i : Int) + 256)) (ix ++ [(((bs.idxOf (blockF l (256 * (i : Int)))) : Nat) : Int)]) (put1 bs (blockF l (256 * (i : Int))))
    exact ⟨_, hr.trans (List.append_assoc ..)⟩
theorem nodup_le : ∀ (a b : List (List Int)), a.Nodup → (∀ x ∈ a, x ∈ b) → a.length ≤ b.length
  | [], b, _, _ => Nat.zero_le _
  | x :: r, b, h, hs => by
    obtain ⟨h1, h2⟩ := List.pairwise_cons.1 h
    have hx := hs x List.mem_cons_self
    have := nodup_le r (b.erase x) h2 (fun y hy => (List.mem_erase_of_ne (Ne.symm (h1 y hy))).2 (hs y (List.mem_cons_of_mem _ hy)))
    rw [List.length_erase_of_mem hx] at this
    have := List.length_pos_of_mem hx
    rw [List.length_cons]
    omega
def cand (L : List S44) : List (List Int) := List.replicate 256 0 :: (L.map (fun x => List.replicate 256 x.f2) ++ (L.map (fun x => blockF L (256 * (x.f0 / 256))) ++ L.map (fun x => blockF L (256 * (x.f1 / 256)))))
theorem cand_len (L : List S44) : (cand L).length = 3 * L.length + 1 := by
  unfold cand
  rw [List.length_cons, List.length_append, List.length_append, List.length_map, List.length_map, List.length_map]
  omega
theorem block_const (L : List S44) (f v : Int) (h : ∀ c : Int, f ≤ c → c ≤ f + 255 → valF L c = v) : blockF L f = List.replicate 256 v := by
  apply List.ext_getElem
  · rw [block_len, List.length_replicate]
  · intro i h1 h2
    rw [List.length_replicate] at h2
    simp only [blockF, List.getElem_map, List.getElem_range, List.getElem_replicate]
    exact h _ (by omega) (by omega)
theorem in_cand (L : List S44) (hR : Right L) (j : Nat) : blockF L (256 * (j : Int)) ∈ cand L := by
  unfold cand
  by_cases h0 : ∃ x ∈ L, 256 * (j : Int) ≤ x.f0 ∧ x.f0 ≤ 256 * (j : Int) + 255
  · obtain ⟨x, hx, h1, h2⟩ := h0
    have e : x.f0 / 256 = (j : Int) := by omega
    refine List.mem_cons_of_mem _ (List.mem_append_right _ (List.mem_append_left _ (List.mem_map.2 ⟨x, hx, by rw [e]⟩)))
  · by_cases h1 : ∃ x ∈ L, 256 * (j : Int) ≤ x.f1 ∧ x.f1 ≤ 256 * (j : Int) + 255
    · obtain ⟨x, hx, h1, h2⟩ := h1
      have e : x.f1 / 256 = (j : Int) := by omega
      refine List.mem_cons_of_mem _ (List.mem_append_right _ (List.mem_append_right _ (List.mem_map.2 ⟨x, hx, by rw [e]⟩)))
    · by_cases h2 : ∃ x ∈ L, x.f0 < 256 * (j : Int) ∧ 256 * (j : Int) + 255 < x.f1
      · obtain ⟨x, hx, h3, h4⟩ := h2
        refine List.mem_cons_of_mem _ (List.mem_append_left _ (List.mem_map.2 ⟨x, hx, ?_⟩))
        refine (block_const L _ _ (fun c c1 c2 => ?_)).symm
        obtain ⟨i, hi, rfl⟩ := List.getElem_of_mem hx
        rw [← flat_val hR]
        exact flat_at hR i hi c ⟨by omega, by omega⟩
      · rw [block_const L (256 * (j : Int)) 0 (fun c c1 c2 => valF_none L c (fun x hx q => ?_))]
        · exact List.mem_cons_self
        · have a0 : ¬ (256 * (j : Int) ≤ x.f0 ∧ x.f0 ≤ 256 * (j : Int) + 255) := fun q => h0 ⟨x, hx, q⟩
          have a1 : ¬ (256 * (j : Int) ≤ x.f1 ∧ x.f1 ≤ 256 * (j : Int) + 255) := fun q => h1 ⟨x, hx, q⟩
          have a2 : ¬ (x.f0 < 256 * (j : Int) ∧ 256 * (j : Int) + 255 < x.f1) := fun q => h2 ⟨x, hx, q⟩
          omega
theorem pack_few (L : List S44) (hR : Right L) : (packGo 4352 L 0 [] []).2.length ≤ 3 * L.length + 1 := by
  rw [← cand_len]
  refine nodup_le _ _ (go_nodup _ _ _ _ _ List.nodup_nil) (fun b hb => ?_)
  obtain ⟨j, rfl⟩ := go_blocks L 4352 0 L [] [] (fun _ _ => rfl) (fun b hb => (by cases hb)) b hb
  exact in_cand L hR j
theorem flat_cut (bs : List (List Int)) (m : Nat) (b : List Int) (hl : ∀ b ∈ bs, b.length = 256) (h : bs[m]? = some b) : (bs.flatten.take (256 * m + 256)).drop (256 * m) = b := by
  apply List.ext_getElem?
  intro r
  have hb := hl b (List.mem_of_getElem? h)
  rw [List.getElem?_drop, List.getElem?_take]
  by_cases hr : r < 256
  · rw [if_pos (by omega), flat_get bs m r b hl h hr]
  · rw [if_neg (by omega), List.getElem?_eq_none (by omega)]
end Go.Proofs.Ytaniolefeieliaa.Pk
