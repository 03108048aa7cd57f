/- The contract of the pool's place. -/
import Derived.Test.YtaniolefeieliaaVMp
import Derived.Test.YtaniolefeieliaaProg
import Derived.Laws.Rows
import Derived.Laws.Tables
import Derived.RegionTactic
import Derived.ChangeAlike
import Derived.BigRegion
import Derived.Deep.RegionLaw
import Derived.Deep.AppendLies
import Derived.Deep.QuietTactic
import Derived.BigQuiet
import Derived.KernelRfl
namespace Go.Proofs.Ytaniolefeieliaa.Pk
open Go.RowKit Go.Proofs.YtaniolefeieliaaW.PrintWords Go.Proofs.YtaniolefeieliaaW.PrintLast Go.Proofs.YtaniolefeieliaaW.PrintMore
open Go.Proofs Go.Proofs.Ytaniolefeieliaa.Mp
set_option linter.unusedVariables false
set_option linter.unusedSimpArgs false
set_option linter.unnecessarySimpa false
theorem info3 : (Try.prog.info? 3).map (fun i => (i.zero, i.size, i.bytes)) = some (some (.int .i64 0), 1, 8) := by kernel_rfl
theorem cells3 : Try.prog.cellsOf 3 = 1 := by kernel_rfl
theorem size50 : (Try.prog.info? 50).map (·.size) = some 256 := by kernel_rfl
theorem und50 : Try.prog.underlying 50 = some (.array 256 3) := Try.underlying50
theorem und47 : Try.prog.underlying 47 = some (.map 50 3) := Try.underlying47
theorem zero3 (w : World) : (zeroValue 3).run Try.prog w = .ok (.int .i64 0) w := by
  obtain ⟨i3, hi, hz, hs, hb⟩ := info_parts info3
  simp [zeroValue, typeInfo, hi, hz]
theorem cell_heap {w w' : World} (h : w'.heap = w.heap) (a : Addr) : w'.cell? a = w.cell? a := by simp only [World.cell?, h]
theorem exec_load50 {a : Act} {o : Oper} {x : Operand} {w : World} {g : Nat} {cs : Array Value} (ho : o.op = .load 50 x) (hx : a.eval x = .pointer (some ⟨g, 0, none⟩)) (hg : w.heap[g]? = some (.cells cs 50 (0, 0))) (hs : cs.size = 256) : (execOp a.eval o).run Try.prog w = .ok (.value (.agg cs)) w := by
  unfold execOp
  simp only [ho, hx, Instr.loadAt, Instr.sureAddr, Sem.run_bind, Sem.run_pure, Result.andThen_ok, run_loadVar_row w g 50 50 cs (0, 0) _ hg und50 rfl (by rw [size50, hs])]
theorem exec_lookup {a : Act} {o : Oper} {x k : Operand} {w : World} {m : Nat} {es : Array MapEntry} {clock : Nat} {b : List Int} {bs : List (List Int)} (ho : o.op = .lookup 47 x k true) (hx : a.eval x = .map (some m)) (hk : a.eval k = .agg (enc b)) (hm : w.heap[m]? = some (.map es clock)) (hb : b.length = 256) (hE : Entries 256 bs es) :
    (execOp a.eval o).run Try.prog w = .ok (.value (.tuple #[.int .i64 (if b ∈ bs then ((bs.idxOf b : Nat) : Int) else 0), .bool (decide (b ∈ bs))])) w := by
  obtain ⟨i3, hi3, hz3, hs3, hb3⟩ := info_parts info3
  unfold execOp
  simp only [ho, hx, hk, Sem.run_bind, Sem.run_pure, Result.andThen_ok, run_lookup w und47 Try.underlying3 (zero3 w) und50 Try.underlying3 cells3 hi3 m es clock hm b hb bs hE]
/-- One block, told anew. -/
def putObj (w : World) (m : Nat) (o : Obj) : World := { w with heap := w.heap.setIfInBounds m o }
theorem upon_skip_of {o : Oper} {a : Act} {w w' : World} {K : Act → World → Prop} {Q : Exit → Act → World → Prop} (h : (execOp a.eval o).run Try.prog w = .ok .skip w') (hk : K (a.put o.dst undef) w') : Oper.wp Try.prog o a w K Q := by
  unfold Oper.wp
  rw [h]
  exact hk
theorem exec_update {a : Act} {o : Oper} {x k y : Operand} {w : World} {m : Nat} {es : Array MapEntry} {clock : Nat} {b : List Int} {bs : List (List Int)} {v : Value} (ho : o.op = .mapUpdate 47 x k y) (hx : a.eval x = .map (some m)) (hk : a.eval k = .agg (enc b)) (hy : a.eval y = v) (hm : w.heap[m]? = some (.map es clock)) (hb : b.length = 256) (hE : Entries 256 bs es) (hn : b ∉ bs) :
    (execOp a.eval o).run Try.prog w = .ok .skip (putObj w m (.map (es.push { key := .agg (enc b), val := v, born := clock }) (clock + 1))) := by
  obtain ⟨i3, hi3, hz3, hs3, hb3⟩ := info_parts info3
  unfold execOp
  simp only [ho, hx, hk, hy, Sem.run_bind, Sem.run_pure, Result.andThen_ok, run_update w und47 und50 Try.underlying3 cells3 hi3 m es clock hm b hb bs hE hn]
  rfl
theorem putObj_at {w : World} {m : Nat} {o o' : Obj} (h : w.heap[m]? = some o) : (putObj w m o').heap[m]? = some o' := by
  have := (Array.getElem?_eq_some_iff.1 h).1
  simp [putObj, Array.getElem?_setIfInBounds, this]
theorem putObj_far {w : World} {m k : Nat} {o' : Obj} (h : k ≠ m) : (putObj w m o').heap[k]? = w.heap[k]? := by
  simp [putObj, Array.getElem?_setIfInBounds, Ne.symm h]
theorem putObj_size (w : World) (m : Nat) (o : Obj) : (putObj w m o).heap.size = w.heap.size := by simp [putObj]
theorem putObj_below {B : Nat} {w0 w : World} (h : Below B w0 w) {m : Nat} (hm : B ≤ m) (o : Obj) : Below B w0 (putObj w m o) :=
  ⟨h.os, h.tape, h.output, by rw [putObj_size]; exact h.size, fun k hk => (putObj_far (by omega)).trans (h.block k hk)⟩
theorem putObj_kept {w W : World} {S : Nat → Prop} (h : Kept w W S) {m : Nat} (hm : S m) (o : Obj) : Kept w (putObj W m o) S :=
  ⟨by rw [putObj_size]; exact h.1, fun k hk hn => (putObj_far (fun e => hn (by rw [e]; exact hm))).trans (h.2 k hk hn)⟩
theorem exec_store23 {a : Act} {o : Oper} {p x : Operand} {w : World} {g j : Nat} {A : Option Addr} {n c : Nat} {old : Value} (ho : o.op = .store 23 p x) (hp : a.eval p = .pointer (some ⟨g, j, none⟩)) (hx : a.eval x = .slice A n c) (hc : w.cell? ⟨g, j, none⟩ = some old) (hf : w.frozen? ⟨g, j, none⟩ = false) :
    (execOp a.eval o).run Try.prog w = .ok .skip (w.setCell ⟨g, j, none⟩ (.slice A n c)) := by
  unfold execOp
  simp only [ho, hp, hx]
  have hu := Try.underlying23
  go_simp
/-- The pool at block gp: the map at block m holds the blocks, the row all of them, one behind the other. -/
def Pool (W : World) (base gp m : Nat) (va : Value) (bs : List (List Int)) : Prop :=
  W.heap[gp]? = some (.cells #[.map (some m), va] 49 (0, 0)) ∧ (∃ es clock, W.heap[m]? = some (.map es clock) ∧ Entries 256 bs es) ∧ Kd.R (Kd.int .i64) 3 W base (fun _ => True) va bs.flatten
def put1 (bs : List (List Int)) (b : List Int) : List (List Int) := if b ∈ bs then bs else bs ++ [b]
theorem flat_len {bs : List (List Int)} {n : Nat} (h : ∀ b ∈ bs, b.length = n) : bs.flatten.length = bs.length * n := by
  induction bs with
  | nil => simp
  | cons x r ih =>
    rw [List.flatten_cons, List.length_append, ih (fun b hb => h b (List.mem_cons_of_mem _ hb)), h x List.mem_cons_self, List.length_cons, Nat.add_mul]
    omega
set_option maxHeartbeats 8000000 in
set_option maxRecDepth 100000 in
theorem place_calls (w0 W : World) (HB : Below w0.heap.size w0 W) (gp m : Nat) (hgp : w0.heap.size ≤ gp) (hmw : w0.heap.size ≤ m) (va : Value) (bs : List (List Int)) (b : List Int) (hb : b.length = 256) (hP : Pool W w0.heap.size gp m va bs) (hn : bs.length ≤ 10000) :
    Calls Try.prog 21 #[.pointer (some ⟨gp, 0, none⟩), .agg (enc b)] W fun e w' => e = .returned (.int .i64 ((bs.idxOf b : Nat) : Int)) ∧ ∃ va', Pool w' w0.heap.size gp m va' (put1 bs b) ∧ Below w0.heap.size w0 w' ∧
      Kept W w' (fun k => k = gp ∨ k = m ∨ some k = va.ownBlock) ∧ (va'.ownBlock = va.ownBlock ∨ ∃ k, va'.ownBlock = some k ∧ W.heap.size ≤ k) := by
  obtain ⟨hp, ⟨es, clock, hm, hE⟩, hA⟩ := hP
  go_enter Try.func21, Try.ntmps21
  go_wp2
  obtain ⟨w1, hw1⟩ : ∃ w1, w1 = W.alloc (.cells (enc b) 50) := ⟨_, rfl⟩
  rw [← hw1]
  have hgb : w1.heap[W.heap.size]? = some (.cells (enc b) 50 (0, 0)) := by rw [hw1]; exact blk_new W _
  have hlt : ∀ k o, W.heap[k]? = some o → w1.heap[k]? = some o := fun k o h => by rw [hw1]; exact blk_alloc h _
  have hp1 := hlt _ _ hp
  have hm1 := hlt _ _ hm
  have x0 := blk_cell hp1 0
  have x1 := blk_cell hp1 1
  simp only [List.getElem?_toArray, List.getElem?_cons_zero, List.getElem?_cons_succ] at x0 x1
  have HB1 : Below w0.heap.size w0 w1 := by rw [hw1]; exact below_alloc HB _
  have HK1 : Kept W w1 (fun k => k = gp ∨ k = m ∨ some k = va.ownBlock) := by rw [hw1]; exact (Kept.refl _ _).alloc _
  have HA1 : Kd.R (Kd.int .i64) 3 w1 w0.heap.size (fun _ => True) va bs.flatten := by rw [hw1]; exact Kd.R_alloc hA _
  have HS1 : W.heap.size ≤ w1.heap.size := HK1.1
  have Hgm : gp ≠ m := by
    rintro rfl
    rw [hp] at hm
    cases hm
  have Hbg : W.heap.size ≠ gp := Ne.symm (Nat.ne_of_lt (blk_lt hp))
  have Hbm : W.heap.size ≠ m := Ne.symm (Nat.ne_of_lt (blk_lt hm))
  clear hw1 hlt
  have FF := Aside0.mk (And.intro HB1 (And.intro HK1 HA1))
  have HE := Aside0.mk hE
  clear HB1 HK1 HA1 hA HB hE hp hm
  refine start_ (n := 11) (S := fun w' => w'.heap = w1.heap) (ds := []) #[false, false, false, false, false, false, false, false, false, false, false] (by kernel_rfl) rfl rfl (rfl) (fun hHeld => ?_)
  refine pure_ (i := 0) (N := some 8) (v := ?_) (a' := ?_) #[true, false, false, false, false, false, false, false, false, false, false] rfl rfl (by kernel_rfl) (fun _ _ _ h => h) (Or.inl ⟨by rfl, ?_⟩) ?_ ?_
  rotate_left
  · intro w'
    go_simp
    with_reducible rfl
  rotate_left
  · simp only [Act.put, List.setIfInBounds_toArray, List.set_cons_zero, List.set_cons_succ, i64_w, i32_w]
    rfl
  refine pure_ (i := 1) (N := some 9) (v := ?_) (a' := ?_) #[true, true, false, false, false, false, false, false, false, false, false] rfl rfl (by kernel_rfl) (fun _ _ _ h => h) (Or.inl ⟨by rfl, ?_⟩) ?_ ?_
  rotate_left
  · intro w'
    go_simp
    with_reducible rfl
  rotate_left
  · simp only [Act.put, List.setIfInBounds_toArray, List.set_cons_zero, List.set_cons_succ, i64_w, i32_w]
    rfl
  refine pure_ (i := 2) (N := some 10) (v := ?_) (a' := ?_) #[true, true, true, false, false, false, false, false, false, false, false] rfl rfl (by kernel_rfl) (fun _ _ _ h => h) (Or.inl ⟨by rfl, ?_⟩) ?_ ?_
  rotate_left
  · intro w'
    go_simp
    with_reducible rfl
  rotate_left
  · simp only [Act.put, List.setIfInBounds_toArray, List.set_cons_zero, List.set_cons_succ, i64_w, i32_w]
    rfl
  refine take_ (i := 3) (N := some 11) (v := ?_) (a' := ?_) #[true, true, true, true, false, false, false, false, false, false, false] rfl rfl (by kernel_rfl) (fun _ _ _ h => h) (Or.inl ⟨by rfl, ?_⟩) hHeld ?_ ?_
  rotate_left
  · intro w' hs
    have s0 : w'.cell? ⟨gp, 0, none⟩ = some (.map (some m)) := (cell_heap hs _).trans x0
    go_simp
    with_reducible rfl
  rotate_left
  · simp only [Act.put, List.setIfInBounds_toArray, List.set_cons_zero, List.set_cons_succ, i64_w, i32_w]
    rfl
  refine take_ (i := 4) (N := some 12) (v := ?_) (a' := ?_) #[true, true, true, true, true, false, false, false, false, false, false] rfl rfl (by kernel_rfl) (fun _ _ _ h => h) (Or.inl ⟨by rfl, ?_⟩) hHeld ?_ ?_
  rotate_left
  · intro w' hs
    refine exec_load50 (x := .tmp 3) (g := W.heap.size) ?_ ?_ (by rw [hs]; exact hgb) (by rw [enc_size, hb])
    · rfl
    · rfl
  rotate_left
  · simp only [Act.put, List.setIfInBounds_toArray, List.set_cons_zero, List.set_cons_succ, i64_w, i32_w]
    rfl
  refine take_ (i := 5) (N := some 13) (v := ?_) (a' := ?_) #[true, true, true, true, true, true, false, false, false, false, false] rfl rfl (by kernel_rfl) (fun _ _ _ h => h) (Or.inl ⟨by rfl, ?_⟩) hHeld ?_ ?_
  rotate_left
  · intro w' hs
    refine exec_lookup (x := .tmp 11) (k := .tmp 12) ?_ ?_ ?_ (by rw [hs]; exact hm1) hb HE.out
    · rfl
    · rfl
    · rfl
  rotate_left
  · simp only [Act.put, List.setIfInBounds_toArray, List.set_cons_zero, List.set_cons_succ, i64_w, i32_w]
    rfl
  refine pure_ (i := 6) (N := some 7) (v := ?_) (a' := ?_) #[true, true, true, true, true, true, true, false, false, false, false] rfl rfl (by kernel_rfl) (fun _ _ _ h => h) (Or.inl ⟨by rfl, ?_⟩) ?_ ?_
  rotate_left
  · intro w'
    go_simp
    with_reducible rfl
  rotate_left
  · simp only [Act.put, List.setIfInBounds_toArray, List.set_cons_zero, List.set_cons_succ, i64_w, i32_w]
    rfl
  refine pure_ (i := 7) (N := some 14) (v := ?_) (a' := ?_) #[true, true, true, true, true, true, true, true, false, false, false] rfl rfl (by kernel_rfl) (fun _ _ _ h => h) (Or.inl ⟨by rfl, ?_⟩) ?_ ?_
  rotate_left
  · intro w'
    go_simp
    with_reducible rfl
  rotate_left
  · simp only [Act.put, List.setIfInBounds_toArray, List.set_cons_zero, List.set_cons_succ, i64_w, i32_w]
    rfl
  refine pure_ (i := 8) (N := some 15) (v := ?_) (a' := ?_) #[true, true, true, true, true, true, true, true, true, false, false] rfl rfl (by kernel_rfl) (fun _ _ _ h => h) (Or.inl ⟨by rfl, ?_⟩) ?_ ?_
  rotate_left
  · intro w'
    go_simp
    with_reducible rfl
  rotate_left
  · simp only [Act.put, List.setIfInBounds_toArray, List.set_cons_zero, List.set_cons_succ, i64_w, i32_w]
    rfl
  refine pure_ (i := 9) (N := some 5) (v := ?_) (a' := ?_) #[true, true, true, true, true, true, true, true, true, true, false] rfl rfl (by kernel_rfl) (fun _ _ _ h => h) (Or.inl ⟨by rfl, ?_⟩) ?_ ?_
  rotate_left
  · intro w'
    go_simp
    with_reducible rfl
  rotate_left
  · simp only [Act.put, List.setIfInBounds_toArray, List.set_cons_zero, List.set_cons_succ, i64_w, i32_w]
    rfl
  refine pure_ (i := 10) (N := some 6) (v := ?_) (a' := ?_) #[true, true, true, true, true, true, true, true, true, true, true] rfl rfl (by kernel_rfl) (fun _ _ _ h => h) (Or.inl ⟨by rfl, ?_⟩) ?_ ?_
  rotate_left
  · intro w'
    go_simp
    with_reducible rfl
  rotate_left
  · simp only [Act.put, List.setIfInBounds_toArray, List.set_cons_zero, List.set_cons_succ, i64_w, i32_w]
    rfl
  refine done_ (by kernel_rfl) ?_
  have hd1 := Aside0.mk (show (w1.drew).heap = w1.heap from rfl)
  have hos : (w1.drew).os = w0.os := FF.out.1.os
  have htape : (w1.drew).tape = w0.tape := FF.out.1.tape
  have hout : (w1.drew).output = w0.output := FF.out.1.output
  generalize w1.drew = w2 at hd1 hos htape hout ⊢
  have x0' := (cell_heap hd1.out _).trans x0
  have x1' := (cell_heap hd1.out _).trans x1
  have hgb2 := (congrArg (·[W.heap.size]?) hd1.out).trans hgb
  have hm2 := (congrArg (·[m]?) hd1.out).trans hm1
  have hp2 := (congrArg (·[gp]?) hd1.out).trans hp1
  have HB2 : Below w0.heap.size w0 w2 := ⟨hos, htape, hout, by rw [hd1.out]; exact FF.out.1.size, fun k hk => by rw [hd1.out]; exact FF.out.1.block k hk⟩
  have HK2 : Kept W w2 (fun k => k = gp ∨ k = m ∨ some k = va.ownBlock) := ⟨by rw [hd1.out]; exact FF.out.2.1.1, fun k hk hne => by rw [hd1.out]; exact FF.out.2.1.2 k hk hne⟩
  have HA2 : Kd.R (Kd.int .i64) 3 w2 w0.heap.size (fun _ => True) va bs.flatten := Kd.R_step FF.out.2.2 (fun k _ _ => by rw [hd1.out])
  (try clear hos htape hout)
  by_cases hin : b ∈ bs
  · rw [if_pos hin, decide_eq_true hin]
    go_wp2
    go_ret
    refine ⟨rfl, va, ?_, HB2, HK2, .inl rfl⟩
    unfold put1
    rw [if_pos hin]
    exact ⟨hp2, ⟨es, clock, hm2, HE.out⟩, HA2⟩
  · rw [if_neg hin, decide_eq_false hin]
    have hlen : (Builtin.len_ #[47] 3 #[.map (some m)]).run Try.prog w2 = .ok (.int .i64 (bs.length : Nat)) w2 := by
      simp only [Builtin.len_]
      simp [run_underlying und47, MapKept.run_getObj_map hm2, HE.out.1, goInt]
    have FF := Aside0.mk (And.intro HB2 (And.intro HK2 HA2))
    have GG := Aside0.mk (And.intro hp2 (And.intro hm2 hgb2))
    clear HB2 HK2 HA2 hp2 hm2 hgb2
    go_wp2
    have x0'' := x0'
    clear x1'
    refine start_ (n := 7) (S := fun w' => w'.heap = w2.heap) (ds := [6]) #[false, false, false, false, false, false, false] (by kernel_rfl) rfl rfl (rfl) (fun hHeld => ?_)
    refine pure_ (i := 0) (N := some 23) (v := ?_) (a' := ?_) #[true, false, false, false, false, false, false] rfl rfl (by kernel_rfl) (fun _ _ _ h => h) (Or.inl ⟨by rfl, ?_⟩) ?_ ?_
    rotate_left
    · intro w'
      go_simp
      with_reducible rfl
    rotate_left
    · simp only [Act.put, List.setIfInBounds_toArray, List.set_cons_zero, List.set_cons_succ, i64_w, i32_w]
      rfl
    refine pure_ (i := 1) (N := some 24) (v := ?_) (a' := ?_) #[true, true, false, false, false, false, false] rfl rfl (by kernel_rfl) (fun _ _ _ h => h) (Or.inl ⟨by rfl, ?_⟩) ?_ ?_
    rotate_left
    · intro w'
      go_simp
      with_reducible rfl
    rotate_left
    · simp only [Act.put, List.setIfInBounds_toArray, List.set_cons_zero, List.set_cons_succ, i64_w, i32_w]
      rfl
    refine pure_ (i := 2) (N := some 25) (v := ?_) (a' := ?_) #[true, true, true, false, false, false, false] rfl rfl (by kernel_rfl) (fun _ _ _ h => h) (Or.inl ⟨by rfl, ?_⟩) ?_ ?_
    rotate_left
    · intro w'
      go_simp
      with_reducible rfl
    rotate_left
    · simp only [Act.put, List.setIfInBounds_toArray, List.set_cons_zero, List.set_cons_succ, i64_w, i32_w]
      rfl
    refine take_ (i := 3) (N := some 26) (v := ?_) (a' := ?_) #[true, true, true, true, false, false, false] rfl rfl (by kernel_rfl) (fun _ _ _ h => h) (Or.inl ⟨by rfl, ?_⟩) hHeld ?_ ?_
    rotate_left
    · intro w' hs
      have s0 : w'.cell? ⟨gp, 0, none⟩ = some (.map (some m)) := (cell_heap hs _).trans x0''
      go_simp
      with_reducible rfl
    rotate_left
    · simp only [Act.put, List.setIfInBounds_toArray, List.set_cons_zero, List.set_cons_succ, i64_w, i32_w]
      rfl
    refine take_ (i := 4) (N := some 27) (v := ?_) (a' := ?_) #[true, true, true, true, true, false, false] rfl rfl (by kernel_rfl) (fun _ _ _ h => h) (Or.inl ⟨by rfl, ?_⟩) hHeld ?_ ?_
    rotate_left
    · intro w' hs
      refine exec_load50 (x := .tmp 3) (g := W.heap.size) ?_ ?_ (by rw [hs]; exact GG.out.2.2) (by rw [enc_size, hb])
      · rfl
      · rfl
    rotate_left
    · simp only [Act.put, List.setIfInBounds_toArray, List.set_cons_zero, List.set_cons_succ, i64_w, i32_w]
      rfl
    refine pure_ (i := 5) (N := some 28) (v := ?_) (a' := ?_) #[true, true, true, true, true, true, false] rfl rfl (by kernel_rfl) (fun _ _ _ h => h) (Or.inl ⟨by rfl, ?_⟩) ?_ ?_
    rotate_left
    · intro w'
      go_simp
      with_reducible rfl
    rotate_left
    · simp only [Act.put, List.setIfInBounds_toArray, List.set_cons_zero, List.set_cons_succ, i64_w, i32_w]
      rfl
    refine last_ (i := 6) (N := none) #[true, true, true, true, true, true, true] rfl rfl (by kernel_rfl) (by decide) (fun K hK => ?_)
    rw [if_pos (by rfl)]
    refine upon_skip_of (exec_update (x := .tmp 26) (k := .tmp 27) (y := .tmp 28) (v := .int .i64 (bs.length : Nat)) (bs := bs) ?_ ?_ ?_ ?_ (w := w2.drew) GG.out.2.1 hb HE.out hin) ?_
    · rfl
    · rfl
    · rfl
    · rfl
    refine hK.out _ _ ?_
    clear hK K
    refine norm_ (a' := ?_) ?_ ?_
    rotate_left
    · show Act.put _ none _ = _
      simp only [Act.put]
      rfl
    refine done_ (by kernel_rfl) ?_
    obtain ⟨es', hes'⟩ : ∃ es', es' = es.push { key := .agg (enc b), val := .int .i64 (bs.length : Nat), born := clock } := ⟨_, rfl⟩
    obtain ⟨w3, hw3⟩ : ∃ w3, w3 = putObj w2.drew m (.map es' (clock + 1)) := ⟨_, rfl⟩
    rw [← hes', ← hw3]
    have hE' : Entries 256 (bs ++ [b]) es' := by rw [hes']; exact HE.out.push b hb clock
    have hp3 : w3.heap[gp]? = some (.cells #[.map (some m), va] 49 (0, 0)) := by rw [hw3, putObj_far Hgm]; exact GG.out.1
    have hm3 : w3.heap[m]? = some (.map es' (clock + 1)) := by rw [hw3]; exact putObj_at (w := w2.drew) GG.out.2.1
    have hgb3 : w3.heap[W.heap.size]? = some (.cells (enc b) 50 (0, 0)) := by rw [hw3, putObj_far Hbm]; exact GG.out.2.2
    have HB3 : Below w0.heap.size w0 w3 := by rw [hw3]; exact putObj_below (below_drew FF.out.1) hmw _
    have HK3 : Kept W w3 (fun k => k = gp ∨ k = m ∨ some k = va.ownBlock) := by rw [hw3]; exact putObj_kept (FF.out.2.1.drew) (.inr (.inl rfl)) _
    have HA3 : Kd.R (Kd.int .i64) 3 w3 w0.heap.size (fun _ => True) va bs.flatten := by
      rw [hw3]
      refine Kd.R_mono (Kd.R_step (Kd.R_bound (Kd.R_drew FF.out.2.2)) (fun k hk _ => putObj_far ?_)) (fun _ _ => trivial)
      rintro rfl
      obtain ⟨_, _, _, q, _, cells, hc⟩ := hk
      exact absurd (hc.symm.trans GG.out.2.1) (by simp)
    have hC3 : (Kd.int .i64).C w3.drew (some ⟨W.heap.size, 0, none⟩) 256 b := Kd.C_of_reads (d := (0 : Int)) ⟨hb, by omega, fun _ => ⟨_, rfl, fun j hj => by
      rw [add_plain]
      show w3.cell? _ = _
      rw [blk_cell hgb3, enc_at b j (by omega)]⟩⟩
    have hfl : bs.flatten.length = bs.length * 256 := flat_len HE.out.2.1
    clear hw3 hes' HE FF GG
    have F3 := Aside0.mk (And.intro HB3 (And.intro HK3 (And.intro HA3 hC3)))
    have G3 := Aside0.mk (And.intro hm3 hE')
    clear HB3 HK3 HA3 hC3 hm3 hE' hgb3 hlen x0' x0''
    go_wp2
    refine start_ (n := 10) (S := fun w' => w'.heap[gp]? = some (.cells #[.map (some m), va] 49 (0, 0))) (ds := [9]) #[false, false, false, false, false, false, false, false, false, false] (by kernel_rfl) rfl rfl (hp3) (fun hHeld => ?_)
    refine pure_ (i := 0) (N := some 29) (v := ?_) (a' := ?_) #[true, false, false, false, false, false, false, false, false, false] rfl rfl (by kernel_rfl) (fun _ _ _ h => h) (Or.inl ⟨by rfl, ?_⟩) ?_ ?_
    rotate_left
    · intro w'
      go_simp
      with_reducible rfl
    rotate_left
    · simp only [Act.put, List.setIfInBounds_toArray, List.set_cons_zero, List.set_cons_succ, i64_w, i32_w]
      rfl
    refine pure_ (i := 1) (N := some 30) (v := ?_) (a' := ?_) #[true, true, false, false, false, false, false, false, false, false] rfl rfl (by kernel_rfl) (fun _ _ _ h => h) (Or.inl ⟨by rfl, ?_⟩) ?_ ?_
    rotate_left
    · intro w'
      go_simp
      with_reducible rfl
    rotate_left
    · simp only [Act.put, List.setIfInBounds_toArray, List.set_cons_zero, List.set_cons_succ, i64_w, i32_w]
      rfl
    refine pure_ (i := 2) (N := some 31) (v := ?_) (a' := ?_) #[true, true, true, false, false, false, false, false, false, false] rfl rfl (by kernel_rfl) (fun _ _ _ h => h) (Or.inl ⟨by rfl, ?_⟩) ?_ ?_
    rotate_left
    · intro w'
      go_simp
      with_reducible rfl
    rotate_left
    · simp only [Act.put, List.setIfInBounds_toArray, List.set_cons_zero, List.set_cons_succ, i64_w, i32_w]
      rfl
    refine pure_ (i := 3) (N := some 32) (v := ?_) (a' := ?_) #[true, true, true, true, false, false, false, false, false, false] rfl rfl (by kernel_rfl) (fun _ _ _ h => h) (Or.inl ⟨by rfl, ?_⟩) ?_ ?_
    rotate_left
    · intro w'
      go_simp
      with_reducible rfl
    rotate_left
    · simp only [Act.put, List.setIfInBounds_toArray, List.set_cons_zero, List.set_cons_succ, i64_w, i32_w]
      rfl
    refine take_ (i := 4) (N := some 33) (v := ?_) (a' := ?_) #[true, true, true, true, true, false, false, false, false, false] rfl rfl (by kernel_rfl) (fun _ _ _ h => h) (Or.inl ⟨by rfl, ?_⟩) hHeld ?_ ?_
    rotate_left
    · intro w' hs
      have s1 := blk_cell hs 1
      simp only [List.getElem?_toArray, List.getElem?_cons_zero, List.getElem?_cons_succ] at s1
      go_simp
      with_reducible rfl
    rotate_left
    · simp only [Act.put, List.setIfInBounds_toArray, List.set_cons_zero, List.set_cons_succ, i64_w, i32_w]
      rfl
    refine pure_ (i := 5) (N := some 34) (v := ?_) (a' := ?_) #[true, true, true, true, true, true, false, false, false, false] rfl rfl (by kernel_rfl) (fun _ _ _ h => h) (Or.inl ⟨by rfl, ?_⟩) ?_ ?_
    rotate_left
    · intro w'
      go_simp
      with_reducible rfl
    rotate_left
    · simp only [Act.put, List.setIfInBounds_toArray, List.set_cons_zero, List.set_cons_succ, i64_w, i32_w]
      rfl
    refine one_ (i := 6) (N := some 35) #[true, true, true, true, true, true, true, false, false, false] rfl rfl (by kernel_rfl) (by decide) (fun K hK => ?_)
    refine Kd.R_append_rows_step (Kd.int .i64) (w0 := w0) w0.heap.size (by rfl) (.tmp 33) (.tmp 34) 23 3 (.int .i64 0) 8 rfl Try.underlying23 info3 rfl (by decide) (by decide) va bs.flatten b (some ⟨W.heap.size, 0, none⟩) 256 256 (fun _ => True) (fun _ => False) rfl rfl (Kd.R_drew F3.out.2.2.1) F3.out.2.2.2 (fun _ _ h => h) (fun _ h => h.elim) (fun _ _ => trivial) (below_drew F3.out.1) F3.out.1.size (by rw [hfl]; omega) ?_
    intro v1 w4 ho hb4 hg hat
    have S4 : w4.heap[gp]? = some (.cells #[.map (some m), va] 49 (0, 0)) := blk_grown (w := w3.drew) hp3 hg (Kd.R_ne (Kd.R_drew F3.out.2.2.1) (w := w3.drew) hp3 (by decide))
    obtain ⟨A1, c1, e1⟩ := Kd.R_slice ho
    subst e1
    refine hK.out _ _ S4 (fun hHeld => ?_)
    clear hK K
    refine norm_ (a' := ?_) ?_ ?_
    rotate_left
    · show Act.put _ (some 35) _ = _
      simp only [Act.put, List.setIfInBounds_toArray, List.set_cons_zero, List.set_cons_succ, i64_w, i32_w]
      rfl
    refine pure_ (i := 7) (N := some 36) (v := ?_) (a' := ?_) #[true, true, true, true, true, true, true, true, false, false] rfl rfl (by kernel_rfl) (fun _ _ _ h => h) (Or.inl ⟨by rfl, ?_⟩) ?_ ?_
    rotate_left
    · intro w'
      go_simp
      with_reducible rfl
    rotate_left
    · simp only [Act.put, List.setIfInBounds_toArray, List.set_cons_zero, List.set_cons_succ, i64_w, i32_w]
      rfl
    refine pure_ (i := 8) (N := some 37) (v := ?_) (a' := ?_) #[true, true, true, true, true, true, true, true, true, false] rfl rfl (by kernel_rfl) (fun _ _ _ h => h) (Or.inl ⟨by rfl, ?_⟩) ?_ ?_
    rotate_left
    · intro w'
      go_simp
      with_reducible rfl
    rotate_left
    · simp only [Act.put, List.setIfInBounds_toArray, List.set_cons_zero, List.set_cons_succ, i64_w, i32_w]
      rfl
    refine last_ (i := 9) (N := none) #[true, true, true, true, true, true, true, true, true, true] rfl rfl (by kernel_rfl) (by decide) (fun K hK => ?_)
    rw [if_pos (by rfl)]
    refine upon_skip_of (exec_store23 (p := .tmp 37) (x := .tmp 35) (g := gp) (j := 1) (A := A1) (n := (bs.flatten ++ b).length) (c := c1) ?_ ?_ ?_ ((blk_cell S4 1).trans rfl) (blk_frozen S4 1)) ?_
    · rfl
    · rfl
    · rfl
    refine hK.out _ _ ?_
    clear hK K
    refine norm_ (a' := ?_) ?_ ?_
    rotate_left
    · show Act.put _ none _ = _
      simp only [Act.put]
      rfl
    refine done_ (by kernel_rfl) ?_
    go_wp2
    go_ret
    have HK4 : Kept W w4 (fun k => k = gp ∨ k = m ∨ some k = va.ownBlock) := (F3.out.2.1.drew).then_ (Kept.of_grown hg (Kept.refl _ (fun k => some k = va.ownBlock)) (fun k e => .inl e.symm)) (fun k hk => .inl (.inr (.inr hk)))
    have hm4 : w4.heap[m]? = some (.map es' (clock + 1)) := blk_grown (w := w3.drew) G3.out.1 hg (fun e => by
      obtain ⟨cells, hc⟩ := Kd.R_typed (w := w3.drew) (Kd.R_drew F3.out.2.2.1) m e.symm
      exact absurd (hc.symm.trans G3.out.1) (by simp))
    have hfar : ∀ k, k ≠ gp → (w4.setCell ⟨gp, 1, none⟩ (.slice A1 (bs.flatten ++ b).length c1)).heap[k]? = w4.heap[k]? := fun k hk => Below.heap_setCell _ _ _ _ hk
    refine ⟨by rw [List.idxOf_eq_length hin]; rfl, .slice A1 (bs.flatten ++ b).length c1, ?_, below_set hb4 hgp, HK4.setCell (.inl (.inl rfl)) _, ?_⟩
    · unfold put1
      rw [if_neg hin]
      refine ⟨blk_put S4 1 _ rfl, ⟨es', clock + 1, (hfar m (Ne.symm Hgm)).trans hm4, G3.out.2⟩, ?_⟩
      rw [List.flatten_append, List.flatten_singleton]
      exact Kd.R_mono (Kd.R_far (Kd.R_types ho S4 (by decide)) (fun _ hk => hk.2) _) (fun _ _ => trivial)
    · rcases hat with e | ⟨k, e, hk⟩
      · exact .inl e
      · exact .inr ⟨k, e, Nat.le_trans F3.out.2.1.1 hk⟩
end Go.Proofs.Ytaniolefeieliaa.Pk
