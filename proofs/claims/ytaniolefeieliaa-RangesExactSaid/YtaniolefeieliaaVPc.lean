/- The contract of Pack. -/
import Derived.Test.YtaniolefeieliaaVPk
import Derived.Test.YtaniolefeieliaaVB1
import Derived.Deep.WholeRow
namespace Go.Proofs.Ytaniolefeieliaa.Pk
open Go.RowKit Go.Proofs.YtaniolefeieliaaW.PrintWords Go.Proofs.YtaniolefeieliaaW.PrintLast Go.Proofs.YtaniolefeieliaaW.PrintMore
open Go.Proofs Go.Proofs.Ytaniolefeieliaa.Mp Go.Proofs.Ytaniolefeieliaa.Base
theorem mx2 (k k' : IntKind) (x y : Int) : Builtin.max2 (.int k x) (.int k' y) = pure (.int k (max x y)) := by
  rw [max2_int, show max x y = if x < y then y else x by omega]
theorem mn2 (k k' : IntKind) (x y : Int) : Builtin.min2 (.int k x) (.int k' y) = pure (.int k (min x y)) := by
  rw [min2_int, show min x y = if y < x then y else x by omega]
attribute [local go_sem] mx2 mn2 max_two min_two   -- for this text's walks alone
set_option linter.unusedVariables false
set_option linter.unusedSimpArgs false
set_option linter.unnecessarySimpa false
/-! ### What Pack computes -/
/-- The last range that has c tells. -/
def valF (l : List S44) (c : Int) : Int := l.foldl (fun v x => if x.f0 ≤ c ∧ c ≤ x.f1 then x.f2 else v) 0
def blockF (l : List S44) (first : Int) : List Int := (List.range 256).map (fun j : Nat => valF l (first + (j : Int)))
def trimF (l : List S44) (lim : Int) : List S44 := l.dropWhile (fun x => decide (x.f1 < lim))
def packGo : Nat → List S44 → Nat → List Int → List (List Int) → List Int × List (List Int)
  | 0, _, _, ix, bs => (ix, bs)
  | d + 1, l, i, ix, bs => packGo d (trimF l (256 * (i : Int) + 256)) (i + 1) (ix ++ [(((bs.idxOf (blockF l (256 * (i : Int)))) : Nat) : Int)]) (put1 bs (blockF l (256 * (i : Int))))
/-- One range, filled in up to c. -/
def fillF (x : S44) (first : Int) (c : Int) (L : List Int) : List Int := (List.range 256).map (fun j : Nat => if x.f0 ≤ first + (j : Int) ∧ first + (j : Int) ≤ x.f1 ∧ first + (j : Int) < c then x.f2 else L.getD j 0)
theorem fill_len (x : S44) (first c : Int) (L : List Int) : (fillF x first c L).length = 256 := by simp [fillF]
theorem block_len (l : List S44) (first : Int) : (blockF l first).length = 256 := by simp [blockF]
theorem block_nil (first : Int) : blockF [] first = List.replicate 256 0 := by
  apply List.ext_getElem
  · rw [block_len, List.length_replicate]
  · intro i h1 h2
    simp only [blockF, List.getElem_map, List.getElem_replicate]
    rfl
theorem fill_start (x : S44) (first : Int) (L : List Int) (hL : L.length = 256) : fillF x first (max x.f0 first) L = L := by
  apply List.ext_getElem
  · rw [fill_len, hL]
  · intro i h1 h2
    simp only [fillF, List.getElem_map, List.getElem_range]
    rw [if_neg (by omega), List.getD_eq_getElem?_getD, List.getElem?_eq_getElem h2]
    rfl
theorem fill_step (x : S44) (first c : Int) (L : List Int) (h0 : max x.f0 first ≤ c) (h1 : c ≤ min x.f1 (first + 255)) : (fillF x first c L).set (c - first).toNat x.f2 = fillF x first (c + 1) L := by
  apply List.ext_getElem
  · rw [List.length_set, fill_len, fill_len]
  · intro i h2 h3
    rw [List.getElem_set]
    simp only [fillF, List.getElem_map, List.getElem_range]
    by_cases h : (c - first).toNat = i
    · rw [if_pos h, if_pos (by omega)]
    · rw [if_neg h]
      by_cases q : x.f0 ≤ first + (i : Int) ∧ first + (i : Int) ≤ x.f1 ∧ first + (i : Int) < c
      · rw [if_pos q, if_pos (by omega)]
      · rw [if_neg q, if_neg (by omega)]
theorem fill_end (l : List S44) (m : Nat) (hm : m < l.length) (first c : Int) (h : min (l[m]).f1 (first + 255) < c) (h2 : max (l[m]).f0 first ≤ c) : fillF l[m] first c (blockF (l.take m) first) = blockF (l.take (m + 1)) first := by
  apply List.ext_getElem
  · rw [fill_len, block_len]
  · intro i h3 h4
    rw [fill_len] at h3
    simp only [fillF, blockF, List.getElem_map, List.getElem_range]
    have e : (List.map (fun j : Nat => valF (l.take m) (first + (j : Int))) (List.range 256)).getD i 0 = valF (l.take m) (first + (i : Int)) := by
      rw [List.getD_eq_getElem?_getD, List.getElem?_map, List.getElem?_range h3]
      rfl
    rw [e]
    have e2 : valF (l.take (m + 1)) (first + (i : Int)) = if (l[m]).f0 ≤ first + (i : Int) ∧ first + (i : Int) ≤ (l[m]).f1 then (l[m]).f2 else valF (l.take m) (first + (i : Int)) := by
      unfold valF
      rw [← List.take_append_getElem hm, List.foldl_append]
      rfl
    rw [e2]
    by_cases q : (l[m]).f0 ≤ first + (i : Int) ∧ first + (i : Int) ≤ (l[m]).f1
    · rw [if_pos q, if_pos (by omega)]
    · rw [if_neg q, if_neg (by omega)]
/-- Where Pack stands ahead of block i. -/
def PRel (w : World) (gr gp m : Nat) (l : List S44) (i : Nat) (lt : List S44) (Al : Option Addr) (cl : Nat) (v5 : Value) (ix : List Int) (va : Value) (bs : List (List Int)) (W : World) : Prop :=
  Below w.heap.size w W ∧ W.heap[gr]? = some (.cells #[.slice none 0 0, .slice none 0 0] 25 (0, 0)) ∧ Pool W w.heap.size gp m va bs ∧ Kd.R (Kd.int .i64) 3 W w.heap.size (fun _ => True) v5 ix ∧
    (∀ k, v5.ownBlock = some k → va.ownBlock ≠ some k) ∧ Kd.C k44 w Al lt.length lt ∧ lt.length ≤ cl ∧ bs.length ≤ i ∧ ix.length = i ∧ packGo (4352 - i) lt i ix bs = packGo 4352 l 0 [] []
theorem fill_end' (l : List S44) (m : Nat) (x : S44) (hx : l[m]? = some x) (first c : Int) (h : min x.f1 (first + 255) < c) (h2 : max x.f0 first ≤ c) : fillF x first c (blockF (l.take m) first) = blockF (l.take (m + 1)) first := by
  obtain ⟨hm, rfl⟩ := List.getElem?_eq_some_iff.1 hx
  exact fill_end l m hm first c h h2
theorem info50 : (Try.prog.info? 50).map (fun i => (i.zero, i.size)) = some (some (.agg (Array.replicate 256 (.int .i64 0))), 256) := by kernel_rfl
theorem R_int_ok {W : World} {base : Nat} {ok ok' : Nat → Prop} {v : Value} {xs : List Int} (h : Kd.R (Kd.int .i64) 3 W base ok v xs) (h' : ∀ k, v.ownBlock = some k → ok' k) : Kd.R (Kd.int .i64) 3 W base ok' v xs := ⟨h', h.2⟩
theorem Pool_below {W W1 : World} {base gp m : Nat} {va : Value} {bs : List (List Int)} (h : Pool W base gp m va bs) (hb : Below W.heap.size W W1) : Pool W1 base gp m va bs := by
  obtain ⟨h1, ⟨es, clock, h2, h3⟩, h4⟩ := h
  exact ⟨blk_below h1 hb, ⟨es, clock, (hb.block m (blk_lt h2)).trans h2, h3⟩, Kd.R_below h4 hb⟩
theorem ix_kept {wr w8 : World} {base gp m : Nat} {va v5 : Value} {bs : List (List Int)} {ix : List Int} (hI : Kd.R (Kd.int .i64) 3 wr base (fun _ => True) v5 ix) (hP : Pool wr base gp m va bs) (hap : ∀ k, v5.ownBlock = some k → va.ownBlock ≠ some k)
    (hK : Kept wr w8 (fun k => k = gp ∨ k = m ∨ some k = va.ownBlock)) : Kd.R (Kd.int .i64) 3 w8 base (fun k => v5.ownBlock = some k) v5 ix := by
  refine Kd.R_mono (Kd.R_kept (Kd.R_bound (R_int_ok hI (ok' := fun k => v5.ownBlock = some k) (fun k hk => hk))) hK (fun k hk hS => ?_)) (fun _ hk => hk.1)
  obtain ⟨h1, _, _, q, hq, cells, hc⟩ := hk
  rcases hS with rfl | rfl | hS
  · rw [hP.1] at hc
    simp only [Option.some.injEq, Obj.cells.injEq] at hc
    rcases List.mem_cons.1 hq with e | e
    · rw [e] at hc
      exact absurd hc.2 (by decide)
    · cases e
  · obtain ⟨es, clock, h2, _⟩ := hP.2.1
    rw [h2] at hc
    cases hc
  · exact hap k h1 hS.symm
theorem pool_grown {W W1 : World} {base base2 gp m : Nat} {va v5 : Value} {bs : List (List Int)} {ix : List Int} {ok : Nat → Prop} (hP : Pool W base gp m va bs) (hI : Kd.R (Kd.int .i64) 3 W base2 ok v5 ix) (hap : ∀ k, v5.ownBlock = some k → va.ownBlock ≠ some k) (hg : W.grownBy W1 v5.ownBlock) : Pool W1 base gp m va bs := by
  obtain ⟨h1, ⟨es, clock, h2, h3⟩, h4⟩ := hP
  refine ⟨blk_grown h1 hg (Kd.R_ne hI h1 (by decide)), ⟨es, clock, blk_grown h2 hg (fun e => ?_), h3⟩, Kd.R_mono (Kd.R_grown (R_int_ok h4 (ok' := fun k => va.ownBlock = some k) (fun k hk => hk)) hg (fun k hk e => hap k e.symm hk)) (fun _ _ => trivial)⟩
  obtain ⟨cells, hc⟩ := Kd.R_typed hI m e.symm
  rw [h2] at hc
  cases hc
theorem add_none (ad : Addr) : ad.add 0 = ad := by
  unfold Addr.add
  split <;> simp_all
theorem run_makeMap (w2 : World) : (Instr.makeMap 47 none).run Try.prog w2 = .ok (.map (some w2.heap.size)) (w2.alloc (.map #[] 0)) := by
  unfold Instr.makeMap
  rfl
theorem enc_set (L : List Int) (k : Nat) (v : Int) : (enc L).setIfInBounds k (.int .i64 v) = enc (L.set k v) := by
  unfold enc
  rw [List.setIfInBounds_toArray, List.map_set]
theorem enc_zero : enc (List.replicate 256 0) = Array.replicate 256 (.int .i64 0) := by
  unfold enc
  rw [List.map_replicate, List.toArray_replicate]
set_option maxHeartbeats 8000000 in
set_option maxRecDepth 100000 in
theorem pack_ok (k : Nat) (A0 : Option Addr) (c0 : Nat) (l : List S44) (w : World) (hr0 : Kd.C k44 w A0 l.length l) (hc0 : l.length ≤ c0) (hck : ranges_Check.f k l = some 0) :
    Calls Try.prog 7 #[.slice A0 l.length c0] w fun e w' => ∃ v0 v1, e = .returned (.tuple #[.agg #[v0, v1], .int .i64 0]) ∧ Kd.R (Kd.int .i64) 3 w' w.heap.size (fun k_ => some k_ ≠ v1.ownBlock) v0 (packGo 4352 l 0 [] []).1 ∧
      Kd.R (Kd.int .i64) 3 w' w.heap.size (fun k_ => some k_ ≠ v0.ownBlock) v1 (packGo 4352 l 0 [] []).2.flatten ∧ Below w.heap.size w w' := by
  have HR0 := Aside0.mk hr0
  have HC0 := Aside0.mk hc0
  have CK := Aside0.mk hck
  clear hr0 hc0 hck
  go_enter Try.func7, Try.ntmps7
  go_wp2_with (go_at_call 18; (with_reducible refine (ranges_Check.calls k _ _ l 0 _ ?side1 ?side2 CK.out).mono ?_); (case side1 => exact Kd.C_alloc HR0.out _); (case side2 => exact HC0.out); rintro e w2 ⟨rfl, hb⟩; have HBr := Aside0.mk (show Below w.heap.size w w2 from below_step (below_alloc (Below.refl _ _) _) hb); have GR := Aside0.mk (show w2.heap[w.heap.size]? = some (.cells #[.slice none 0 0, .slice none 0 0] 25 (0, 0)) from blk_below (blk_new w _) hb); have hMM := run_makeMap w2; clear hb)
  have hz50 := (zero_of_info info50).1
  have hsz : (w2.alloc (.map #[] 0)).heap.size = w2.heap.size + 1 := by
    show (w2.heap.push _).size = _
    simp
  obtain ⟨m, hm⟩ : ∃ m, m = w2.heap.size := ⟨_, rfl⟩
  obtain ⟨gp, hgp⟩ : ∃ gp, gp = m + 1 := ⟨_, rfl⟩
  obtain ⟨gr, hgr⟩ : ∃ gr, gr = w.heap.size := ⟨_, rfl⟩
  rw [← hm, ← hgp, ← hgr]
  have P0 : PRel w gr gp m l 0 l A0 c0 (.slice none 0 0) [] (.slice none 0 0) [] ((w2.alloc (.map #[] 0)).alloc (.cells #[.map (some m), .slice none 0 0] 49)) := by
    have h1 := blk_new (w2.alloc (.map #[] 0)) (.cells #[.map (some m), .slice none 0 0] 49)
    rw [hsz, ← hm, ← hgp] at h1
    have h2 := blk_alloc (blk_new w2 (.map #[] 0)) (.cells #[.map (some m), .slice none 0 0] 49)
    rw [← hm] at h2
    refine ⟨below_alloc (below_alloc HBr.out _) _, by rw [hgr]; exact blk_alloc (blk_alloc GR.out _) _, ⟨h1, ⟨#[], 0, h2, rfl, fun b hb => (by cases hb), fun i hi => absurd hi (Nat.not_lt_zero i)⟩, Kd.R_nil _ _ _ _ _⟩, Kd.R_nil _ _ _ _ _, fun k hk => (by cases hk), HR0.out, HC0.out, Nat.le_refl _, rfl, rfl⟩
  have PR := Aside0.mk P0
  have hgrw : w.heap.size ≤ gr := Nat.le_of_eq hgr.symm
  have hmw : w.heap.size ≤ m := by rw [hm]; exact HBr.out.size
  have hgpw : w.heap.size ≤ gp := by omega
  have hgm : gp ≠ m := by omega
  have hgrm : gr < m := by rw [hm]; exact hgr ▸ blk_lt GR.out
  clear hMM P0 hsz
  generalize (w2.alloc (.map #[] 0)).alloc (.cells #[.map (some m), .slice none 0 0] 49) = w3 at PR ⊢
  clear GR HBr hm hgp hgr
  clear w2
  go_loopg [0, 5, 19] 4352 (fun gk v0 v5 v19 wr => ∃ (i : Nat) (lt : List S44) (Al : Option Addr) (cl : Nat) (ix : List Int) (va : Value) (bs : List (List Int)), v0 = .slice Al lt.length cl ∧ v19 = .int .i64 i ∧ i + gk = 4352 ∧ Aside0 (PRel w gr gp m l i lt Al cl v5 ix va bs wr))
  case atStart => exact ⟨0, l, A0, c0, [], .slice none 0 0, [], rfl, rfl, rfl, PR⟩
  case round =>
    obtain ⟨i, lt, Al, cl, ix, va, bs, rfl, rfl, hig, PR1⟩ := hrel
    clear PR
    cases gk with
    | zero =>
      obtain rfl : i = 4352 := by omega
      obtain ⟨hB, hgR, ⟨hp, hmap, hA⟩, hix, hap, hC, hcl, hbl, hil, hgo⟩ := PR1.out
      obtain ⟨A5, c5, e5⟩ := Kd.R_slice hix
      subst e5
      obtain ⟨fl, hfl⟩ : ∃ fl, fl = bs.flatten := ⟨_, rfl⟩
      rw [← hfl] at hA
      have HFL := Aside0.mk hfl
      clear hfl
      obtain ⟨A6, c6, e6⟩ := Kd.R_slice hA
      subst e6
      have x1 := blk_cell hp 1
      have g0 := blk_cell hgR 0
      have g1 := blk_cell hgR 1
      simp only [List.getElem?_toArray, List.getElem?_cons_zero, List.getElem?_cons_succ] at x1 g0 g1
      have f0 := blk_frozen hgR 0
      have f1 := blk_frozen hgR 1
      have FF := Aside0.mk (And.intro hB (And.intro hix (And.intro hA (And.intro hap hgo))))
      have GG := Aside0.mk (And.intro hgR hp)
      clear hB hgR hp hmap hA hix hap hC hcl hbl hil hgo PR1
      go_wp2
      (try simp only [Exit.inBlock, Exit.then])
      refine bodyPost_ret (results_ct rfl _ _ gr 25 #[.slice A5 ix.length c5, .slice A6 fl.length c6] (0, 0) _ rfl (blk_put (blk_put GG.out.1 0 _ rfl) 1 _ rfl) Try.underlying25 rfl (by kernel_rfl)) rfl ?_
      obtain ⟨hB, hix, hA, hap, hgo⟩ := FF.out
      have e : packGo 4352 l 0 [] [] = (ix, bs) := hgo.symm
      rw [e]
      show ∃ v0 v1, _ ∧ _ ∧ Kd.R _ _ _ _ _ _ bs.flatten ∧ _
      rw [← HFL.out]
      refine ⟨_, _, rfl, R_int_ok (Kd.R_far (p := ⟨gr, 1, none⟩) (Kd.R_far (p := ⟨gr, 0, none⟩) (Kd.R_types hix GG.out.1 (by decide)) (fun _ hk => hk.2) _) (fun _ hk => hk.2) _) (fun k hk h2 => hap k hk h2.symm), R_int_ok (Kd.R_far (p := ⟨gr, 1, none⟩) (Kd.R_far (p := ⟨gr, 0, none⟩) (Kd.R_types hA GG.out.1 (by decide)) (fun _ hk => hk.2) _) (fun _ hk => hk.2) _) (fun k hk h2 => hap k h2.symm hk), below_set (below_set hB hgrw) hgrw⟩
    | succ gk =>
      have hi : i < 4352 := by omega
      obtain ⟨fst, hfst⟩ : ∃ f : Int, f = 256 * (i : Int) := ⟨_, rfl⟩
      have hw1 : IntKind.i64.wrap ((i : Int) * 256) = fst := by rw [IntKind.wrap_i64]; omega
      have hd1 : decide ((i : Int) < 4352) = true := decide_eq_true (by omega)
      have HF := Aside0.mk hfst
      have HI := Aside0.mk (And.intro hi hig)
      clear hfst hi hig
      go_wp2
      have B0 : Below wr.heap.size wr (wr.alloc (.cells (Array.replicate 256 (.int .i64 0)) 50)) ∧ (wr.alloc (.cells (Array.replicate 256 (.int .i64 0)) 50)).heap[wr.heap.size]? = some (.cells (enc (blockF (lt.take 0) fst)) 50 (0, 0)) :=
        ⟨below_alloc (Below.refl _ _) _, by rw [blk_new, List.take_zero, block_nil, enc_zero]⟩
      have BR := Aside0.mk B0
      clear B0
      generalize wr.alloc (.cells (Array.replicate 256 (.int .i64 0)) 50) = w4 at BR ⊢
      obtain ⟨gb, hgb⟩ : ∃ gb, gb = wr.heap.size := ⟨_, rfl⟩
      rw [← hgb]
      have HGB := Aside0.mk hgb
      clear hgb
      obtain ⟨wo, rfl⟩ : ∃ wo, wo = wr := ⟨_, rfl⟩
      obtain ⟨gO, rfl⟩ : ∃ g, g = gk := ⟨_, rfl⟩
      go_loopg [26] lt.length (fun gq v26 w5 => ∃ (mm : Nat), v26 = .int .i64 mm ∧ mm + gq = lt.length ∧ Aside0 (Below wo.heap.size wo w5 ∧ w5.heap[gb]? = some (.cells (enc (blockF (lt.take mm) fst)) 50 (0, 0))))
      case atStart => exact ⟨0, rfl, Nat.zero_add _, ⟨⟨BR.out.1, by rw [HGB.out]; exact BR.out.2⟩⟩⟩
      case round =>
        obtain ⟨mm, rfl, hmq, BR2⟩ := hrel
        clear BR
        cases gk with
        | zero =>
          obtain rfl : mm = lt.length := by omega
          have d5 : decide (((lt.length : Nat) : Int) < (lt.length : Int)) = false := decide_eq_false (by omega)
          have hgb6 := BR2.out.2
          rw [List.take_length] at hgb6
          obtain ⟨b, hbE⟩ : ∃ b, b = blockF lt fst := ⟨_, rfl⟩
          rw [← hbE] at hgb6
          have hbl : b.length = 256 := by rw [hbE]; exact block_len _ _
          have HBE := Aside0.mk hbE
          have HP6 := Aside0.mk (Pool_below PR1.out.2.2.1 BR2.out.1)
          have HI6 := Aside0.mk (Kd.R_below PR1.out.2.2.2.1 BR2.out.1)
          have HB6 := Aside0.mk (below_step PR1.out.1 BR2.out.1)
          have hbn : bs.length ≤ 10000 := by have := PR1.out.2.2.2.2.2.2.2.1; have := HI.out.1; omega
          have HBL := Aside0.mk hbl
          have HBN := Aside0.mk hbn
          have HG6 := Aside0.mk hgb6
          clear hbE hgb6 hbl hbn
          have HR6 := Aside0.mk (blk_below PR1.out.2.1 BR2.out.1)
          have HIL := Aside0.mk (show ix.length ≤ 4352 from by have := PR1.out.2.2.2.2.2.2.2.2.1; have := HI.out.1; omega)
          go_wp2_with (first
            | ((with_reducible refine gate_dst (N := 53) rfl ?_); refine wpList_load_row rfl 50 (.tmp 7) rfl gb rfl 50 (enc b) (0, 0) _ HG6.out Try.underlying50 rfl (by rw [size50, enc_size, HBL.out]) ?_)
            | (go_at_call 21; (with_reducible refine (place_calls w _ HB6.out gp m hgpw hmw va bs b HBL.out HP6.out HBN.out).mono ?_); rintro e w8 ⟨rfl, va', hP', hB', hK', hO'⟩; have I8 := Aside0.mk (ix_kept HI6.out HP6.out PR1.out.2.2.2.2.1 hK'); have G8 := Aside0.mk ((hK'.2 gr (blk_lt HR6.out) (fun hS => by rcases hS with e | e | e; exact absurd (blk_ne HR6.out HP6.out.1 (by decide)) (fun q => q e); omega; exact Kd.R_ne HP6.out.2.2 HR6.out (by decide) e)).trans HR6.out); have A8 := Aside0.mk (show ∀ k, u5.ownBlock = some k → va'.ownBlock ≠ some k from fun k hk e => by rcases hO' with q | ⟨j, q, hj⟩; exact PR1.out.2.2.2.2.1 k hk (q.symm.trans e); have := Kd.R_lt HI6.out k hk; rw [q] at e; injection e with e; omega); have P8 := Aside0.mk hP'; have B8 := Aside0.mk hB'; clear hP' hB' hK' hO')
            | ((with_reducible refine gate_builtin (b := .append) (xs := #[.tmp 51, .tmp 55]) rfl ?_); at_builtin; refine Kd.R_append (Kd.int .i64) (w0 := w) w.heap.size rfl (.tmp 51) (.tmp 55) 23 3 (.int .i64 0) 8 rfl Try.underlying23 info3 rfl (by decide) (by omega) u5 ix ((bs.idxOf b : Nat) : Int) [.int .i64 ((bs.idxOf b : Nat) : Int)] (fun k => u5.ownBlock = some k ∨ w8.heap.size ≤ k) (fun _ => False) rfl rfl ?aP (fun _ hk => hk.elim) ?aF ?aO ?aB ?aS ?aL ?_; (case aP => exact rfl); (case aB => exact B8.out); (case aF => exact fun k hk => .inr hk); (case aO => exact Kd.R_mono I8.out (fun _ hk => .inl hk)); (case aS => exact B8.out.size); (case aL => have := HIL.out; omega); intro v57 w9 ho hb hg hat; have HZ9 := Aside0.mk (And.intro ho (And.intro hb (And.intro hg hat))); clear ho hb hg hat))
          have hN : ∀ (lt2 : List S44) (Al2 : Option Addr) (cl2 : Nat), Kd.C k44 w Al2 lt2.length lt2 → lt2.length ≤ cl2 → lt2 = trimF lt (fst + 256) → PRel w gr gp m l (i + 1) lt2 Al2 cl2 v57 (ix ++ [((bs.idxOf b : Nat) : Int)]) va' (put1 bs b) w9 := by
            intro lt2 Al2 cl2 h1 h2 h3
            obtain ⟨ho, hb, hg, hat⟩ := HZ9.out
            obtain ⟨q1, q2, q3, q4, q5, q6, q7, q8, q9, q10⟩ := PR1.out
            refine ⟨hb, blk_grown G8.out hg (Kd.R_ne I8.out G8.out (by decide)), pool_grown P8.out I8.out A8.out hg, Kd.R_mono ho (fun _ _ => trivial), fun k hk e => ?_, h1, h2, ?_, ?_, ?_⟩
            · rcases hat with q | ⟨j, q, hj⟩
              · exact A8.out k (q ▸ hk) e
              · rw [q] at hk
                injection hk with hk
                have := Kd.R_lt P8.out.2.2 k e
                omega
            · unfold put1
              split
              · omega
              · rw [List.length_append, List.length_singleton]; omega
            · rw [List.length_append, List.length_singleton, q9]
            · rw [← q10, show 4352 - i = (4352 - (i + 1)) + 1 by have := HI.out.1; omega, packGo, ← HF.out, ← HBE.out, h3]
          have hwi : IntKind.i64.wrap ((i : Int) + 1) = ((i + 1 : Nat) : Int) := by have := HI.out.1; rw [IntKind.wrap_i64]; omega
          have hf1 : IntKind.i64.wrap (fst + 256) = fst + 256 := by have := HF.out; have := HI.out.1; rw [IntKind.wrap_i64]; omega
          have HN := Aside0.mk hN
          have T0 := Aside0.mk (show Kd.C k44 w Al lt.length lt ∧ lt.length ≤ cl ∧ trimF lt (fst + 256) = trimF lt (fst + 256) ∧ w9 = w9 from ⟨PR1.out.2.2.2.2.2.1, PR1.out.2.2.2.2.2.2.1, rfl, rfl⟩)
          have B9 := Aside0.mk HZ9.out.2.1
          clear hN HZ9 G8 P8 I8 A8 B8 HR6 HIL HBE HP6 HI6 HB6 HBL HBN HG6 d5
          go_loopg [0] lt.length (fun gk v0 wz => ∃ (lt2 : List S44) (Al2 : Option Addr) (cl2 : Nat), v0 = .slice Al2 lt2.length cl2 ∧ lt2.length ≤ gk ∧ Aside0 (Kd.C k44 w Al2 lt2.length lt2 ∧ lt2.length ≤ cl2 ∧ trimF lt2 (fst + 256) = trimF lt (fst + 256) ∧ wz = w9))
          case atStart => exact ⟨lt, Al, cl, rfl, Nat.le_refl _, T0⟩
          case round =>
            obtain ⟨lt2, Al2, cl2, rfl, hlg, T1⟩ := hrel
            clear T0
            obtain ⟨hC2, hc2, ht2, rfl⟩ := T1.out
            clear T1
            have HC2 := Aside0.mk hC2
            have Hc2 := Aside0.mk hc2
            cases lt2 with
            | nil =>
              have HT := Aside0.mk (show ([] : List S44) = trimF lt (fst + 256) from ht2)
              clear hC2 hc2 ht2 hlg
              go_wp2
              go_roundg gO
              case measure => have := HI.out.2; omega
              case rel => exact ⟨i + 1, [], Al2, cl2, _, va', put1 bs b, rfl, rfl, by have := HI.out.2; omega, ⟨HN.out [] Al2 cl2 HC2.out Hc2.out HT.out⟩⟩
            | cons x r =>
              have hC9 := Kd.C_below hC2 B9.out
              obtain ⟨ad, eA, hx0, hx1, hx2⟩ := at_T44 hC9 (0 : Int) (by omega) (by rw [List.length_cons]; omega)
              subst eA
              have e0 : rd_T44 (x :: r) 0 = x := rfl
              rw [e0] at hx1
              simp only [show (0 : Int).toNat = 0 from rfl, Nat.zero_mul, add_none] at hx1
              obtain ⟨n2, hn2⟩ : ∃ n2, n2 = (x :: r).length := ⟨_, rfl⟩
              rw [← hn2]
              have hn3 : n2 = r.length + 1 := by rw [hn2, List.length_cons]
              have p7 : ((0 : Int) < (n2 : Int)) = True := eq_true (by omega)
              have d7 : decide ((0 : Int) < (n2 : Int)) = true := decide_eq_true (by omega)
              have d8 : decide (0 < n2) = true := decide_eq_true (by omega)
              have p8 : 0 < n2 := by omega
              obtain ⟨i44, hi44, _, hsz44, _⟩ := info_parts info44
              have HT2 := Aside0.mk ht2
              have HN3 := Aside0.mk (And.intro hn2 (And.intro hn3 hlg))
              by_cases hlim : x.f1 < fst + 256
              · have dx : decide (x.f1 < fst + 256) = true := decide_eq_true hlim
                have hcut := cut_from (P := Try.prog) 22 44 .i64 Try.underlying22 hi44 3 hsz44 (some ad) n2 cl2 1 (by omega) (by omega)
                obtain ⟨A3, hA3⟩ : ∃ A1, A1 = (if cl2 = (1 : Int).toNat then (some ad) else (some ad : Option Addr).map (·.add ((1 : Int).toNat * 3))) := ⟨_, rfl⟩
                obtain ⟨c3, hc3⟩ : ∃ c1, c1 = cl2 - (1 : Int).toNat := ⟨_, rfl⟩
                rw [← hA3, ← hc3, show n2 - (1 : Int).toNat = r.length from by rw [hn3]; rfl] at hcut
                have hr3 : Kd.C k44 w A3 r.length r := by rw [hA3]; exact Kd.C_drop (m := 1) (c := cl2) hC2 (by rw [List.length_cons]; omega) hc2
                have hc3' : r.length ≤ c3 := by rw [hc3]; have : (1 : Int).toNat = 1 := rfl; rw [List.length_cons] at hc2; omega
                have ht3 : trimF r (fst + 256) = trimF lt (fst + 256) := by
                  rw [← ht2]
                  unfold trimF
                  rw [List.dropWhile_cons, if_pos (by exact dx)]
                have R3 := Aside0.mk (And.intro hr3 (And.intro hc3' ht3))
                clear hC2 hc2 ht2 hlg hC9 hn2 hn3 hr3 hc3' ht3 hA3 hc3 hlim hx0 hx2 hi44 hsz44
                go_wp2
                cases gk with
                | zero => exact absurd HN3.out.2.2 (by have := HN3.out.2.1; have := HN3.out.1; omega)
                | succ gk =>
                  go_roundg gk
                  case measure => omega
                  case rel => exact ⟨r, A3, c3, rfl, by have := HN3.out; omega, ⟨R3.out.1, R3.out.2.1, R3.out.2.2, rfl⟩⟩
              · have dx : decide (x.f1 < fst + 256) = false := decide_eq_false hlim
                have ht3 : x :: r = trimF lt (fst + 256) := by
                  rw [← ht2]
                  unfold trimF
                  rw [List.dropWhile_cons, if_neg (by rw [dx]; decide)]
                have HT := Aside0.mk ht3
                clear hC2 hc2 ht2 hlg hC9 hn2 hn3 ht3 hlim hx0 hx2 hi44 hsz44
                go_wp2
                go_roundg gO
                case measure => have := HI.out.2; omega
                case rel => exact ⟨i + 1, x :: r, some ad, cl2, _, va', put1 bs b, by rw [HN3.out.1], rfl, by have := HI.out.2; omega, ⟨HN.out (x :: r) (some ad) cl2 HC2.out Hc2.out HT.out⟩⟩
        | succ gk =>
          have hml : mm < lt.length := by omega
          have hC5 := Kd.C_below PR1.out.2.2.2.2.2.1 (below_step PR1.out.1 BR2.out.1)
          obtain ⟨ad, eA, hx0, hx1, hx2⟩ := at_T44 hC5 (mm : Int) (by omega) (by omega)
          subst eA
          simp only [Int.toNat_natCast] at hx0 hx1 hx2
          obtain ⟨x, hx⟩ : ∃ x, x = rd_T44 lt (mm : Int) := ⟨_, rfl⟩
          rw [← hx] at hx0 hx1 hx2
          have hxe : lt[mm]? = some x := by rw [hx]; simp [rd_T44, List.getD_eq_getElem?_getD, List.getElem?_eq_getElem hml]
          have p5 : (0 ≤ (mm : Int)) = True := eq_true (by omega)
          have q5 : ((mm : Int) < (lt.length : Int)) = True := eq_true (by omega)
          have d5 : decide ((mm : Int) < (lt.length : Int)) = true := decide_eq_true (by omega)
          have hf1 : IntKind.i64.wrap (fst + 256) = fst + 256 := by have := HF.out; have := HI.out.1; rw [IntKind.wrap_i64]; omega
          have hf2 : IntKind.i64.wrap (fst + 256 - 1) = fst + 255 := by have := HF.out; have := HI.out.1; rw [IntKind.wrap_i64]; omega
          have HM := Aside0.mk (And.intro hml hmq)
          have HX := Aside0.mk hxe
          clear hC5 hml hmq hx hxe
          go_wp2
          have B1 : Below wo.heap.size wo (wr.alloc (.cells #[.int .i64 x.f0, .int .i64 x.f1, .int .i64 x.f2] 44)) ∧ (wr.alloc (.cells #[.int .i64 x.f0, .int .i64 x.f1, .int .i64 x.f2] 44)).heap[gb]? = some (.cells (enc (fillF x fst (max x.f0 fst) (blockF (lt.take mm) fst))) 50 (0, 0)) ∧ (wr.alloc (.cells #[.int .i64 x.f0, .int .i64 x.f1, .int .i64 x.f2] 44)).heap[wr.heap.size]? = some (.cells #[.int .i64 x.f0, .int .i64 x.f1, .int .i64 x.f2] 44 (0, 0)) :=
            ⟨below_alloc BR2.out.1 _, by rw [fill_start _ _ _ (block_len _ _)]; exact blk_alloc BR2.out.2 _, blk_new _ _⟩
          have hgx : gb < wr.heap.size := blk_lt BR2.out.2
          have BR3 := Aside0.mk B1
          clear B1 hx0 hx1 hx2 p5 q5 d5
          obtain ⟨gx, hgxe⟩ : ∃ gx, gx = wr.heap.size := ⟨_, rfl⟩
          rw [← hgxe] at BR3 hgx ⊢
          generalize wr.alloc (.cells #[.int .i64 x.f0, .int .i64 x.f1, .int .i64 x.f2] 44) = w6 at BR3 ⊢
          clear hgxe BR2
          clear wr
          obtain ⟨gI, rfl⟩ : ∃ g, g = gk := ⟨_, rfl⟩
          obtain ⟨N0, hN0⟩ : ∃ N : Nat, N = (min x.f1 (fst + 255) + 1 - max x.f0 fst).toNat := ⟨_, rfl⟩
          have HN0 := Aside0.mk hN0
          clear hN0
          go_loopg [11] N0 (fun gk v11 w7 => ∃ (c : Int), v11 = .int .i64 c ∧ max x.f0 fst ≤ c ∧ gk = (min x.f1 (fst + 255) + 1 - c).toNat ∧ Aside0 (Below wo.heap.size wo w7 ∧ w7.heap[gb]? = some (.cells (enc (fillF x fst c (blockF (lt.take mm) fst))) 50 (0, 0)) ∧ w7.heap[gx]? = some (.cells #[.int .i64 x.f0, .int .i64 x.f1, .int .i64 x.f2] 44 (0, 0))))
          case atStart => exact ⟨_, rfl, Int.le_refl _, HN0.out, BR3⟩
          case round =>
            obtain ⟨c, rfl, hc0, hgk, BR4⟩ := hrel
            clear BR3
            have x0 := blk_cell BR4.out.2.2 1
            have x2 := blk_cell BR4.out.2.2 2
            simp only [List.getElem?_toArray, List.getElem?_cons_zero, List.getElem?_cons_succ] at x0 x2
            cases gk with
            | zero =>
              have dc : decide (c ≤ min x.f1 (fst + 255)) = false := decide_eq_false (by omega)
              have hwm : IntKind.i64.wrap ((mm : Int) + 1) = ((mm + 1 : Nat) : Int) := by
                have h1 := HM.out.1
                have h2 := PR1.out.2.2.2.2.2.1.2.1
                rw [IntKind.wrap_i64]
                omega
              have HC := Aside0.mk (show min x.f1 (fst + 255) < c ∧ max x.f0 fst ≤ c from ⟨by omega, hc0⟩)
              clear hgk hc0
              go_wp2
              go_roundg gI
              case measure => have := HM.out.2; omega
              case rel => exact ⟨mm + 1, rfl, by have := HM.out.2; omega, ⟨BR4.out.1, by rw [← fill_end' lt mm x HX.out fst c HC.out.1 HC.out.2]; exact BR4.out.2.1⟩⟩
            | succ gk =>
              have dc : decide (c ≤ min x.f1 (fst + 255)) = true := decide_eq_true (by omega)
              have hcf : fst ≤ c ∧ c ≤ fst + 255 := by omega
              have hfb : 0 ≤ fst ∧ fst ≤ 2000000 := by have := HF.out; have := HI.out.1; omega
              obtain ⟨jx, hjx⟩ : ∃ j : Int, j = c - fst := ⟨_, rfl⟩
              have hw2 : IntKind.i64.wrap (c - fst) = jx := by rw [IntKind.wrap_i64]; omega
              have hw3 : IntKind.i64.wrap (c + 1) = c + 1 := by rw [IntKind.wrap_i64]; omega
              have p6 : (0 ≤ jx) = True := eq_true (by omega)
              have q6 : (jx < 256) = True := eq_true (by omega)
              have hk6 : jx.toNat < (fillF x fst c (blockF (lt.take mm) fst)).length := by rw [fill_len]; omega
              have x6 := (blk_cell BR4.out.2.1 jx.toNat).trans (enc_at _ _ hk6)
              have f6 := blk_frozen BR4.out.2.1 jx.toNat
              have HJ := Aside0.mk hjx
              have HC := Aside0.mk (show max x.f0 fst ≤ c ∧ c ≤ min x.f1 (fst + 255) ∧ gk + 1 = (min x.f1 (fst + 255) + 1 - c).toNat from ⟨hc0, by omega, hgk⟩)
              clear hgk hc0 hcf hfb hk6 hjx
              go_wp2
              go_roundg gk
              case measure => omega
              case rel => exact ⟨c + 1, rfl, by have := HC.out; omega, by have := HC.out; omega, ⟨BR4.out.1.setCell (Nat.le_of_eq HGB.out.symm) _, by rw [← fill_step x fst c _ HC.out.1 HC.out.2.1, ← enc_set, ← HJ.out]; exact blk_put BR4.out.2.1 _ _ rfl, blk_far BR4.out.2.2 (Nat.ne_of_gt hgx) _⟩⟩
end Go.Proofs.Ytaniolefeieliaa.Pk
