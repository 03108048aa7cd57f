/- The contracts of sets.Compare, sets.Place and sets.Sorted. -/
import Derived.Test.YtmhkemgbienfiaaSt4
import Derived.Test.YtmhkemgbienfiaaWLast
import Derived.Test.YtmhkemgbienfiaaWMore
import Derived.Lib.BytesEntry
import Derived.Deep.QuietTactic
import Derived.BigQuiet
import Derived.Deep.DeepCutAuto
import Derived.Deep.CutBlock
import Derived.Laws.NewBlocks
set_option linter.unusedVariables false
set_option linter.unusedSimpArgs false
set_option linter.unusedSectionVars false
namespace Go.Proofs.Ytmhkemgbienfiaa.Sets
open Go.Shelf Go.RowKit Go.Lib Go.Sort Go.Proofs
open Go.Proofs.YtmhkemgbienfiaaW.PrintWords Go.Proofs.YtmhkemgbienfiaaW.PrintLast Go.Proofs.YtmhkemgbienfiaaW.PrintMore

/-- bytes.Compare's answer. -/
def cmpI (a b : List Int) : Int := Lib.compareBytes (Lib.bytesOf a) (Lib.bytesOf b)

theorem bytesOf_run {P : Program} {w : World} {A : Option Addr} {n c : Nat} {l : List Int} (h : Kd.C (Kd.int .u8) w A n l) : (Extern.Bytes.bytesOf (.slice A n c)).run P w = .ok ⟨(Lib.bytesOf l).toArray⟩ w := by
  have hR := Kd.reads_of_C (d := (0 : Int)) h
  obtain ⟨h1, h2, h3⟩ := hR
  cases A with
  | none =>
    have h0 : l = [] := by
      rcases Nat.eq_zero_or_pos n with h0 | h0
      · exact List.eq_nil_of_length_eq_zero (by omega)
      · obtain ⟨ad, he, _⟩ := h3 h0; cases he
    subst h0
    rfl
  | some a =>
    have := Lib.run_loadBytesX (P := P) w l a .empty (fun j x hj => by
      obtain ⟨hl, hx⟩ := List.getElem?_eq_some_iff.1 hj
      obtain ⟨ad, he, hc⟩ := h3 (by omega)
      cases he
      rw [hc j (by omega), List.getD_eq_getElem?_getD, hj]
      rfl)
    show (Extern.Bytes.loadBytes a n .empty).run P w = _
    rw [← h1, this]
    congr 1
    apply ByteArray.ext
    simp

theorem compare_run {P : Program} {w : World} {A B : Option Addr} {n c m d : Nat} {l k : List Int} (h : Kd.C (Kd.int .u8) w A n l) (h' : Kd.C (Kd.int .u8) w B m k) :
    (Extern.BytealgCompare.compare #[.slice A n c, .slice B m d]).run P w = .ok (.int .i64 (cmpI l k)) w := by
  change Sem.run P (do pure (goInt (Extern.BytealgCompare.cmp (← Extern.Bytes.bytesOf (.slice A n c)) (← Extern.Bytes.bytesOf (.slice B m d))))) w = _
  simp only [Sem.run_bind, Sem.run_pure, bytesOf_run h, bytesOf_run h', Result.andThen, Lib.cmp_eq]
  rfl

set_option maxHeartbeats 1000000 in
theorem compare27 (A0 : Option Addr) (n0 c0 : Nat) (l0 : List Int) (A1 : Option Addr) (n1 c1 : Nat) (l1 : List Int) (w : World) (h0 : Kd.C (Kd.int .u8) w A0 n0 l0) (h1 : Kd.C (Kd.int .u8) w A1 n1 l1) :
    Calls Try.prog 27 #[.slice A0 n0 c0, .slice A1 n1 c1] w fun e w' => e = .returned (.int .i64 (cmpI l0 l1)) ∧ w = w' := by
  have hr := compare_run (P := Try.prog) (c := c0) (d := c1) h0 h1
  have HR := Aside0.mk hr
  clear hr h0 h1
  go_enter Try.func27, Try.ntmps27
  go_wp2
  rw [run_callFunc_extern Try.func29 (by kernel_rfl) (by kernel_rfl) (by kernel_rfl) (e := Extern.BytealgCompare.compare) (by kernel_rfl), HR.out]
  simp only [Result.andThen]
  rw [Oper.upon_value]
  go_wp2
  go_ret
  exact ⟨rfl, rfl⟩

set_option maxHeartbeats 1000000 in
theorem compare15 (A0 : Option Addr) (n0 c0 : Nat) (l0 : List Int) (A1 : Option Addr) (n1 c1 : Nat) (l1 : List Int) (w : World) (h0 : Kd.C (Kd.int .u8) w A0 n0 l0) (h1 : Kd.C (Kd.int .u8) w A1 n1 l1) :
    Calls Try.prog 15 #[.slice A0 n0 c0, .slice A1 n1 c1] w fun e w' => e = .returned (.int .i64 (cmpI l0 l1)) ∧ w = w' := by
  have hc := compare27 A0 n0 c0 l0 A1 n1 c1 l1 w h0 h1
  clear h0 h1
  go_enter Try.func15, Try.ntmps15
  go_wp2_with (go_at_call 27; (with_reducible refine hc.mono ?_); rintro e w' ⟨rfl, rfl⟩)
  go_ret
  exact ⟨rfl, rfl⟩

/-- The closure of Place, in a world where its box and the rows read. -/
theorem closure_at (W : World) (B : Nat) (A : Option Addr) (n c : Nat) (l : List (List Int)) (hB : W.cell? ⟨B, 0, none⟩ = some (.slice A n c)) (hl : Kd.C (Kd.slice 5 (Kd.int .u8)) W A n l) (i k : Nat) (hi : i < n) (hk : k < n) :
    Calls Try.prog 24 #[.int .i64 i, .int .i64 k, .pointer (some ⟨B, 0, none⟩)] W fun e w' => e = .returned (.int .i64 (cmpI (l.getD i []) (l.getD k []))) ∧ ∃ q, w' = W.drewN q := by
  obtain ⟨ad, c1, rfl, hc1, hK1, hx1⟩ := Kd.C_get hl [] (i : Int) (by omega) (by omega)
  obtain ⟨ad', c2, e2, hc2, hK2, hx2⟩ := Kd.C_get hl [] (k : Int) (by omega) (by omega)
  cases e2
  obtain ⟨A1, m1, rfl, q1, g1⟩ := hK1
  obtain ⟨A2, m2, rfl, q2, g2⟩ := hK2
  have x1 := hx1 0 _ rfl
  have x2 := hx2 0 _ rfl
  have hsz : (Kd.slice 5 (Kd.int .u8)).sz = 1 := rfl
  rw [hsz] at x1 x2
  simp only [Int.toNat_natCast, Nat.add_zero, Nat.mul_one] at x1 x2 q1 q2 g1 g2
  generalize l.getD i [] = x at *
  generalize l.getD k [] = y at *
  have hc := fun n => (compare15 A1 x.length m1 x A2 y.length m2 y (W.drewN n) (Kd.C_drewN g1 n) (Kd.C_drewN g2 n)).mono fun e w' h => (⟨h.1, h.2.symm⟩ : e = .returned (.int .i64 (cmpI x y)) ∧ w' = W.drewN n)
  have hu22 := Try.underlying22
  have hu23 := Try.underlying23
  have hi0 : (i : Int) < (n : Int) := by omega
  have hk0 : (k : Int) < (n : Int) := by omega
  clear hx1 hx2 hc1 hc2 g1 g2 hl q1 q2
  go_enter Try.func24, Try.ntmps24
  go_wp2
  go_quiet ((go_at_call 15; exact Calls.quiet_of_same (hc _)))
  go_wp2
  go_ret
  exact ⟨rfl, _, rfl⟩

/-! ### Place -/
theorem below_mapBlock {B : Nat} {w W : World} (h : RowKit.Below B w W) {blk : Nat} (hb : B ≤ blk) (f : Array Value → Array Value) : RowKit.Below B w (mapBlock W blk f) :=
  h.trans ⟨rfl, rfl, rfl, by simp [mapBlock], fun k hk => by simp only [mapBlock, Array.getElem?_modify]; rw [if_neg (by omega)]⟩
theorem below_grow {B : Nat} {w W : World} (h : RowKit.Below B w W) (hs : B ≤ W.heap.size) (os : Array Obj) : RowKit.Below B w (grow W os) :=
  h.trans ⟨rfl, rfl, rfl, by simp, fun k hk => heap_grow_old _ _ (by omega)⟩
theorem below_ahead {B : Nat} {w W : World} (h : RowKit.Below B w W) (n : Nat) : RowKit.Below B w (Sort.ahead W n) := ⟨h.os, h.tape, h.output, h.size, h.block⟩
theorem below_sortWorld {α : Type} [Inhabited α] {B : Nat} {w W : World} (h : RowKit.Below B w W) {blk : Nat} (hb : B ≤ blk) (hs : B ≤ W.heap.size) (enc : α → Value) (off m : Nat) (d : Array α) (os : Array Obj) : RowKit.Below B w (sortWorld enc W blk off m d os) := by
  unfold sortWorld
  refine below_grow (below_mapBlock (below_ahead h m) hb _) ?_ os
  show B ≤ (Array.modify _ _ _).size
  rw [Array.size_modify]
  exact hs
theorem cell_sortWorld_other {α : Type} [Inhabited α] {W : World} {blk b o : Nat} (hne : b ≠ blk) (hlt : b < W.heap.size) (enc : α → Value) (off m : Nat) (d : Array α) (os : Array Obj) : (sortWorld enc W blk off m d os).cell? ⟨b, o, none⟩ = W.cell? ⟨b, o, none⟩ := by
  unfold sortWorld
  have hsz : (putRow enc (Sort.ahead W m) blk off d).heap.size = W.heap.size := by rw [size_putRow]; rfl
  rw [cell?_grow _ _ _ (by rw [hsz]; exact hlt)]
  unfold World.cell?
  have : (putRow enc (Sort.ahead W m) blk off d).heap[b]? = W.heap[b]? := by
    simp only [putRow, mapBlock, Array.getElem?_modify]
    rw [if_neg (by omega)]
    rfl
  rw [this]

/-- What the closure says of two places. -/
def cfOf (l : List (List Int)) (k : Nat) (x y : Fin (k + 1)) : Int := cmpI (l.getD x.val []) (l.getD y.val [])
def encF (k : Nat) (x : Fin (k + 1)) : Value := .int .i64 ((x.val : Nat) : Int)
theorem encF_one (k : Nat) : OneCell (encF k) := fun _ => rfl

theorem cmpLays (w0 w : World) (blk B n c k : Nat) (A : Option Addr) (l : List (List Int)) (hn : n = k + 1) (hr : Kd.C (Kd.slice 5 (Kd.int .u8)) w A n l) (hB : w0.cell? ⟨B, 0, none⟩ = some (.slice A n c)) (hne : B ≠ blk) (hBl : B < w0.heap.size) (hb : RowKit.Below w.heap.size w w0) (hbl : w.heap.size ≤ blk) (size : Nat) :
    CmpLays1 Try.prog 24 #[.pointer (some ⟨B, 0, none⟩)] (encF k) (cfOf l k) blk 0 size w0 := by
  intro m os dk _ x y
  have hbw := below_sortWorld hb hbl hb.size (encF k) 0 m dk os
  have h1 : (sortWorld (encF k) w0 blk 0 m dk os).cell? ⟨B, 0, none⟩ = some (.slice A n c) := by rw [cell_sortWorld_other hne hBl]; exact hB
  refine (closure_at _ B A n c l h1 (Kd.C_below hr hbw) x.val y.val (by omega) (by omega)).mono ?_
  rintro e w' ⟨rfl, q, rfl⟩
  exact ⟨rfl, q, #[], by rw [grow_empty]⟩

set_option maxHeartbeats 1000000 in
theorem sortStable_s {α : Type} [Inhabited α] (enc : α → Value) (cf : α → α → Int) (g : Nat) (cb : Array Value) (blk off cap : Nat) (d : Array α) (w : World)
    (eg : ∀ args w, (callFunc g args).run Try.prog w = .ok (.enter g args) w) (hcmp : CmpLays1 Try.prog g cb enc cf blk off d.size w) (R : Row1 enc w blk off d) (hsz : d.size < 1152921504606846976) :
    Calls Try.prog 23 #[.slice (some ⟨blk, off, none⟩) d.size cap, .func (.func g) #[] cb] w fun e w' => e = .returned (.tuple #[]) ∧ SW enc w blk off (stable (ltOf cf) d) w' := by
  have hc := stable_s enc cf g cb blk off cap d w eg hcmp R hsz
  clear hcmp R
  go_enter Try.func23, Try.ntmps23
  go_wp2_with (go_at_call 28; (with_reducible refine hc.mono ?_); rintro e w1 ⟨rfl, S2⟩; have S3 : Aside _ := S2; clear S2)
  go_end0
  exact ⟨rfl, S3.out⟩

/-- The places in order. -/
def placeF (l : List (List Int)) : List Int :=
  match l.length with
  | 0 => []
  | k + 1 => (stable (ltOf (cfOf l k)) (Array.ofFn (fun x : Fin (k + 1) => x))).toList.map fun x => ((x.val : Nat) : Int)

theorem info3 : (Try.prog.info? 3).map (fun i => (i.zero, i.size, i.bytes)) = some (some (.int .i64 0), 1, 8) := by kernel_rfl

theorem enters24 : ∀ args w, (callFunc 24 args).run Try.prog w = .ok (.enter 24 args) w := enters_of Try.func24 (by kernel_rfl) rfl

set_option maxHeartbeats 1000000 in
theorem sortStable_none (off blk cap : Nat) (fv : Value) (w : World) :
    Calls Try.prog 23 #[.slice (some ⟨blk, off, none⟩) 0 cap, fv] w fun e w' => e = .returned (.tuple #[]) ∧ w = w' := by
  have h30 : Calls Try.prog 30 #[.slice (some ⟨blk, off, none⟩) 0 cap, .int .i64 0, .int .i64 0, fv] w fun e w' => e = .returned (.tuple #[]) ∧ w = w' := by
    go_enter Try.func30, Try.ntmps30
    go_wp2
    refine wp_loop_rounds 1 ?_
    rw [rounds_succ]
    go_wp2
    go_end0
    exact ⟨rfl, rfl⟩
  have h28 : Calls Try.prog 28 #[.slice (some ⟨blk, off, none⟩) 0 cap, .int .i64 0, fv] w fun e w' => e = .returned (.tuple #[]) ∧ w = w' := by
    go_enter Try.func28, Try.ntmps28
    go_wp2
    refine wp_loop_rounds 1 ?_
    rw [rounds_succ]
    go_wp2_with (go_at_call 30; (with_reducible refine h30.mono ?_); rintro e w1 ⟨rfl, rfl⟩)
    refine wp_loop_rounds 1 ?_
    rw [rounds_succ]
    go_wp2
    go_end0
    exact ⟨rfl, rfl⟩
  go_enter Try.func23, Try.ntmps23
  go_wp2_with (go_at_call 28; (with_reducible refine h28.mono ?_); rintro e w1 ⟨rfl, rfl⟩)
  go_end0
  exact ⟨rfl, rfl⟩

theorem own_block {w' : World} {base g n : Nat} {cur : Array Value} {xs : List Int} (hh : w'.heap[g]? = some (.cells cur 3 (0, 0))) (hb : base ≤ g) (hn : cur.size = n) (hm : n ≤ maxLen) (hx : cur.toList = xs.map (Value.int .i64)) :
    Kd.R (Kd.int .i64) 3 w' base (fun _ => True) (.slice (some ⟨g, 0, none⟩) n n) xs := by
  have hl : xs.length = n := by rw [← hn, ← Array.length_toList, hx, List.length_map]
  subst hl
  refine Kd.R_of_own ⟨by simp [encs], .inr ⟨g, xs.length, cur, rfl, hb, hh, Nat.le_refl _, hm, by rw [hn, Nat.mul_one], ?_⟩⟩ (fun _ _ => trivial)
  rw [Nat.mul_one, List.take_of_length_le (by rw [hx]; simp), hx]
  rfl

theorem size_stable {α : Type} [Inhabited α] (lt : α → α → Bool) (d : Array α) : (stable lt d).size = d.size := by
  have h : ∀ (f bs : Nat) (d : Array α), (stLoop lt f bs d).size = d.size := by
    intro f
    induction f with
    | zero => intros; rfl
    | succ f ih =>
      intro bs d
      rw [stLoop]
      split
      · rw [ih, size_stMrg]
      · rfl
  unfold stable
  rw [h, size_stIns lt (size_insertionSort_ lt)]
theorem heap_sortWorld {α : Type} [Inhabited α] {enc : α → Value} {W : World} {blk off m : Nat} {d : Array α} {os : Array Obj} {C : Array Value} {e : TypeId} {fr : Nat × Nat} (h : W.heap[blk]? = some (.cells C e fr)) :
    (sortWorld enc W blk off m d os).heap[blk]? = some (.cells (putCells enc off d C) e fr) := by
  have hlt : blk < W.heap.size := (Array.getElem?_eq_some_iff.1 h).1
  unfold sortWorld
  rw [heap_grow_old _ _ (by rw [size_putRow]; exact hlt)]
  simp only [putRow, mapBlock, Array.getElem?_modify, if_true]
  show (W.heap[blk]?).map (onCells (putCells enc off d)) = _
  rw [h]
  rfl
theorem putCells_all {α : Type} [Inhabited α] (enc : α → Value) (d : Array α) (C : Array Value) (h : C.size = d.size) : (putCells enc 0 d C).toList = d.toList.map enc := by
  apply List.ext_getElem
  · simp [putCells, h]
  · intro i h1 h2
    have hi : i < d.size := by simpa using h2
    simp [putCells, hi]

/-- The row that Place fills. -/
def RowAt (w w' : World) (A : Option Addr) (n c : Nat) (C : Array Value) : Prop := w' = (w.alloc (.cells #[.slice A n c] 22)).alloc (.cells C 3)

set_option maxHeartbeats 4000000 in
set_option maxRecDepth 100000 in
theorem place_calls (A : Option Addr) (c : Nat) (l : List (List Int)) (w : World) (hr : Kd.C (Kd.slice 5 (Kd.int .u8)) w A l.length l) (hc : l.length ≤ c) (hl : l.length ≤ 1000000) :
    Calls Try.prog 10 #[.slice A l.length c] w fun e w' => ∃ v0_ : Value, e = .returned v0_ ∧ Kd.R (Kd.int .i64) 3 w' w.heap.size (fun _ => True) v0_ (placeF l) ∧ RowKit.Below w.heap.size w w' := by
  obtain ⟨n, hn⟩ : ∃ n, l.length = n := ⟨_, rfl⟩
  have HN := Lib.hid hn
  have HR := Aside0.mk hr
  rw [hn] at hl hc ⊢
  clear hn hr
  have hmk := print_make (P := Try.prog) 26 3 .i64 8 Try.underlying26 info3 (by omega) n (by omega)
  have hu26 := Try.underlying26
  have hu22 := Try.underlying22
  go_enter Try.func10, Try.ntmps10
  go_wp2
  go_loopg [10] n (fun gk vi wr => ∃ (i : Nat) (C : Array Value), vi = .int .i64 i ∧ Hid (i + gk = n) ∧ Aside (RowAt w wr A n c C ∧ C.size = n ∧ ∀ j, j < i → C[j]? = some (.int .i64 (j : Int))))
  case atStart => exact ⟨0, _, rfl, Nat.zero_add _, (⟨rfl, by simp [size_madeCells], fun j hj => by omega⟩ : _ ∧ _ ∧ _)⟩
  case round =>
    obtain ⟨i, C, rfl, hig, HP⟩ := hrel
    have hx := HP.out
    obtain ⟨hw, hsz, hj⟩ := hx
    unfold RowAt at hw
    subst hw
    have hJ := Aside0.mk hj
    have hSZ := Lib.hid hsz
    clear HP hj hsz
    by_cases hlt : i < n
    · have hg := hig.out
      obtain ⟨gk1, rfl⟩ : ∃ q, gk = q + 1 := ⟨gk - 1, by omega⟩
      clear hg
      have hltz : (i : Int) < (n : Int) := by omega
      have hCi : C[i]? = some (C[i]'(by rw [hSZ.out]; exact hlt)) := Array.getElem?_eq_getElem _
      generalize C[i]'(by rw [hSZ.out]; exact hlt) = v at hCi
      go_wp2
      go_roundg gk1
      case measure => omega
      case rel => exact ⟨i + 1, C.setIfInBounds i (.int .i64 (i : Int)), by go_num, (show i + 1 + gk1 = n by have := hig.out; omega), (⟨rfl, by rw [Array.size_setIfInBounds]; exact hSZ.out, fun j hj => by
        rw [Array.getElem?_setIfInBounds]
        by_cases e : i = j
        · subst e; rw [if_pos rfl, if_pos (by rw [hSZ.out]; exact hlt)]
        · rw [if_neg e]; exact hJ.out j (by omega)⟩ : RowAt w _ A n c _ ∧ _ ∧ _)⟩
    · have hltz : ¬ (i : Int) < (n : Int) := by omega
      have hin : i = n := by have := hig.out; omega
      subst hin
      clear hig hlt
      by_cases h0 : i = 0
      · subst h0
        have hc := sortStable_none 0 (w.heap.size + 1) 0 (.func (.func 24) #[] #[.pointer (some ⟨w.heap.size, 0, none⟩)]) ((w.alloc (.cells #[.slice A 0 c] 22)).alloc (.cells C 3))
        go_wp2_with (go_at_call 23; (with_reducible refine hc.mono ?_); rintro e w1 ⟨rfl, rfl⟩)
        go_ret
        refine ⟨_, rfl, ?_, ?_⟩
        · have : placeF l = [] := by unfold placeF; rw [HN.out]
          rw [this]
          exact own_block (by have := heap_alloc_new (w.alloc (.cells #[.slice A 0 c] 22)) (.cells C 3); simpa using this) (by omega) hSZ.out (by unfold maxLen; omega) (by simpa using hSZ.out)
        · exact below_alloc (below_alloc (RowKit.Below.refl _ _) _) _
      · obtain ⟨k, hk⟩ : ∃ k, k + 1 = i := ⟨i - 1, by omega⟩
        have hd : (Array.ofFn (fun x : Fin (k + 1) => x)).size = i := by simp [hk]
        have hH : Holds (encF k) ((w.alloc (.cells #[.slice A i c] 22)).alloc (.cells C 3)) (w.heap.size + 1) 0 (Array.ofFn (fun x : Fin (k + 1) => x)) := by
          intro j hj
          rw [hd] at hj
          refine ⟨?_, by simp⟩
          have hC := hJ.out j hj
          have e : (Array.ofFn (fun x : Fin (k + 1) => x))[j]! = ⟨j, by omega⟩ := by
            rw [getElem!_pos _ j (by rw [hd]; exact hj)]; simp
          rw [e]
          simpa [encF] using hC
        have hR : Row1 (encF k) ((w.alloc (.cells #[.slice A i c] 22)).alloc (.cells C 3)) (w.heap.size + 1) 0 (Array.ofFn (fun x : Fin (k + 1) => x)) := ⟨encF_one k, hH, by simp⟩
        have hL := cmpLays ((w.alloc (.cells #[.slice A i c] 22)).alloc (.cells C 3)) w (w.heap.size + 1) w.heap.size i c k A l hk.symm (HN.out ▸ HR.out) (by simp) (by omega) (by simp; omega) (below_alloc (below_alloc (RowKit.Below.refl _ _) _) _) (by omega) (Array.ofFn (fun x : Fin (k + 1) => x)).size
        have hc := sortStable_s (encF k) (cfOf l k) 24 #[.pointer (some ⟨w.heap.size, 0, none⟩)] (w.heap.size + 1) 0 i (Array.ofFn (fun x : Fin (k + 1) => x)) _ enters24 hL hR (by rw [hd]; omega)
        rw [hd] at hc
        have HK := Lib.hid hk
        clear hH hR hL hk h0
        go_wp2_with (go_at_call 23; (with_reducible refine hc.mono ?_); rintro e w1 ⟨rfl, S2⟩; have S3 : Aside _ := S2; clear S2)
        go_ret
        clear hc
        have hl : l.length = k + 1 := HN.out.trans HK.out.symm
        have hP : placeF l = (stable (ltOf (cfOf l k)) (Array.ofFn (fun x : Fin (k + 1) => x))).toList.map fun x => ((x.val : Nat) : Int) := by
          unfold placeF; rw [hl]
        obtain ⟨m, os, rfl⟩ := S3.out
        refine ⟨_, rfl, ?_, ?_⟩
        · rw [hP]
          have hs : (stable (ltOf (cfOf l k)) (Array.ofFn (fun x : Fin (k + 1) => x))).size = i := by rw [size_stable]; exact hd
          refine own_block (heap_sortWorld (by have := heap_alloc_new (w.alloc (.cells #[.slice A i c] 22)) (.cells C 3); simpa using this)) (by omega) (by simp [putCells, hSZ.out]) (by unfold maxLen; omega) ?_
          rw [putCells_all _ _ _ (by rw [hs]; exact hSZ.out), List.map_map]
          rfl
        · exact below_sortWorld (below_alloc (below_alloc (RowKit.Below.refl _ _) _) _) (by omega) (by simp; omega) _ _ _ _ _

/-! ### Sorted -/
/-- Is each of the places i, .., 1 in order behind the one ahead of it? -/
def sortedF (l : List (List Int)) : Nat → Bool
  | 0 => true
  | i + 1 => if cmpI (l.getD (i + 1) []) (l.getD i []) < 0 then false else sortedF l i

theorem enters15 : ∀ args w, (callFunc 15 args).run Try.prog w = .ok (.enter 15 args) w := enters_of Try.func15 (by kernel_rfl) rfl

theorem elem_at {w : World} {A : Option Addr} {n : Nat} {l : List (List Int)} (hl : Kd.C (Kd.slice 5 (Kd.int .u8)) w A n l) (i : Nat) (hi : i < n) :
    ∃ ad A1 m1, A = some ad ∧ w.cell? (ad.add i) = some (.slice A1 (l.getD i []).length m1) ∧ Kd.C (Kd.int .u8) w A1 (l.getD i []).length (l.getD i []) := by
  obtain ⟨ad, c1, rfl, hc1, hK1, hx1⟩ := Kd.C_get hl [] (i : Int) (by omega) (by omega)
  obtain ⟨A1, m1, rfl, q1, g1⟩ := hK1
  have x1 := hx1 0 _ rfl
  have hsz : (Kd.slice 5 (Kd.int .u8)).sz = 1 := rfl
  rw [hsz] at x1
  simp only [Int.toNat_natCast, Nat.add_zero, Nat.mul_one] at x1 g1
  exact ⟨ad, A1, m1, rfl, x1, g1⟩

set_option maxHeartbeats 4000000 in
set_option maxRecDepth 100000 in
theorem isSorted_calls (A : Option Addr) (c : Nat) (l : List (List Int)) (w : World) (hr : Kd.C (Kd.slice 5 (Kd.int .u8)) w A l.length l) (hb : l.length ≤ 1000000) :
    Calls Try.prog 26 #[.slice A l.length c, .func (.func 15) #[] #[]] w fun e w' => e = .returned (.bool (sortedF l (l.length - 1))) ∧ ∃ q, w' = w.drewN q := by
  obtain ⟨n, hn⟩ : ∃ n, l.length = n := ⟨_, rfl⟩
  have HN := Lib.hid hn
  have HR := Aside0.mk hr
  rw [hn] at hb ⊢
  clear hn hr
  have hu22 := Try.underlying22
  have hu23 := Try.underlying23
  have e15 := enters15
  by_cases h0 : n = 0
  · subst h0
    go_enter Try.func26, Try.ntmps26
    go_wp2
    refine wp_loop_rounds 1 ?_
    rw [rounds_succ]
    go_wp2
    go_ret
    exact ⟨rfl, 0, rfl⟩
  · obtain ⟨m, hm⟩ : ∃ m, m + 1 = n := ⟨n - 1, by omega⟩
    have em := Lib.hid (show (n : Int) - 1 = (m : Int) by omega)
    have en := Lib.hid (show n - 1 = m by omega)
    rw [en.out]
    have HM := Lib.hid hm
    clear hm
    go_enter Try.func26, Try.ntmps26
    go_wp2
    rw [em.out]
    go_loopg [5] m (fun gk v5 wr => v5 = .int .i64 gk ∧ Hid (gk ≤ m) ∧ Hid (sortedF l gk = sortedF l m) ∧ Aside (∃ q, wr = w.drewN q))
    case atStart => exact ⟨rfl, Nat.le_refl _, rfl, (⟨0, rfl⟩ : ∃ q, w = w.drewN q)⟩
    case round =>
      obtain ⟨rfl, hg, HO, HW⟩ := hrel
      cases gk with
      | zero =>
        go_wp2
        go_ret
        exact ⟨by rw [← HO.out]; rfl, HW.out⟩
      | succ i =>
        have g1 := hg.out
        have g2 := HM.out
        have hro := HO.out
        rw [sortedF] at hro
        obtain ⟨q, hq⟩ := HW.out
        have hC : Kd.C (Kd.slice 5 (Kd.int .u8)) wr A n l := by rw [hq, ← HN.out]; exact Kd.C_drewN HR.out q
        obtain ⟨ad, A1, m1, rfl, x1, k1⟩ := elem_at hC (i + 1) (by omega)
        obtain ⟨ad', A2, m2, e2, x2, k2⟩ := elem_at hC i (by omega)
        cases e2
        generalize l.getD (i + 1) [] = x at x1 k1 hro
        generalize l.getD i [] = y at x2 k2 hro
        have hc := fun n => (compare15 A1 x.length m1 x A2 y.length m2 y (wr.drewN n) (Kd.C_drewN k1 n) (Kd.C_drewN k2 n)).mono fun e w' h => (⟨h.1, h.2.symm⟩ : e = .returned (.int .i64 (cmpI x y)) ∧ w' = wr.drewN n)
        clear hC k1 k2 HW HO hg
        obtain ⟨iN, hiN⟩ : ∃ q, q = i + 1 := ⟨_, rfl⟩
        have b1 : (i : Int) + 1 < (n : Int) := by omega
        have b2 : (i : Int) < (n : Int) := by omega
        have b3 : (0 : Int) ≤ (i : Int) + 1 := by omega
        have b4 : ((i : Int) + 1).toNat = iN := by omega
        have b5 : IntKind.i64.wrap ((i : Int) + 1) = (i : Int) + 1 := by rw [IntKind.wrap_i64]; omega
        have b6 : IntKind.i64.wrap (i : Int) = (i : Int) := by rw [IntKind.wrap_i64]; omega
        have b7 : (0 : Int) < (i : Int) + 1 := by omega
        rw [← hiN] at x1
        have HQ := Lib.hid hq
        have G1 := Lib.hid g1
        clear hiN hq g1 g2
        by_cases hv : cmpI x y < 0
        · rw [if_pos hv] at hro
          have hd : decide (cmpI x y < 0) = true := decide_eq_true hv
          have HO := Lib.hid hro
          clear hro
          go_wp2_with fail
          go_quiet ((go_at_fn 15; exact Calls.quiet_of_same (hc _)))
          clear b4
          go_wp2
          go_ret
          exact ⟨by rw [← HO.out]; rfl, _, by rw [HQ.out, World.drewN_drewN]⟩
        · rw [if_neg hv] at hro
          have hd : decide (cmpI x y < 0) = false := decide_eq_false hv
          have HO := Lib.hid hro
          clear hro
          go_wp2_with fail
          go_quiet ((go_at_fn 15; exact Calls.quiet_of_same (hc _)))
          clear b4
          go_wp2
          go_roundg i
          case measure => omega
          case rel => exact ⟨by first | rfl | go_num, (show i ≤ m by have := G1.out; omega), HO, (⟨_, by rw [HQ.out, World.drewN_drewN]⟩ : ∃ q, _ = w.drewN q)⟩

theorem sorted_calls (A : Option Addr) (c : Nat) (l : List (List Int)) (w : World) (hr : Kd.C (Kd.slice 5 (Kd.int .u8)) w A l.length l) (hb : l.length ≤ 1000000) :
    Calls Try.prog 13 #[.slice A l.length c] w fun e w' => e = .returned (.bool (sortedF l (l.length - 1))) ∧ ∃ q, w' = w.drewN q := by
  have hc := isSorted_calls A c l w hr hb
  clear hr
  go_enter Try.func13, Try.ntmps13
  go_wp2_with (go_at_call 26; (with_reducible refine hc.mono ?_); rintro e w1 ⟨rfl, q, rfl⟩)
  go_ret
  exact ⟨rfl, q, rfl⟩
end Go.Proofs.Ytmhkemgbienfiaa.Sets
