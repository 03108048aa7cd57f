-- Written by a program of this session over the translation; checked by Lean alone.
import Derived.Test.YtaniolefeieliaaRows
import Derived.Test.YtaniolefeieliaaVMRangesExactx10
import Derived.Test.YtaniolefeieliaaVPureRangesExact
import Derived.WalkKit
import Derived.ProofKit
import Derived.OpenShut
import Derived.ShutString
import Derived.ChangeOld
import Derived.Below
import Derived.SizedLaws
import Derived.Deep.Slices
import Derived.Test.YtaniolefeieliaaVWSized
namespace Go.Proofs.Ytaniolefeieliaa.rangesExact
open Go.ChangeShapes Go.WideShapes Go.ChangeAt Go.RowKit
open Go.ChangeMaps (open_string shut_string)
set_option linter.unusedVariables false
theorem own : ownKnob Try.prog.godebug = none := by kernel_rfl
theorem laidOut : laidOutB Try.prog = true := by kernel_rfl
def IsRow (k : IntKind) (w : World) (a : Option Addr) (len cap : Nat) (zs : List Int) : Prop :=
  (a = none ∧ len = 0 ∧ cap = 0 ∧ zs = []) ∨
  ∃ x, a = some x ∧ len ≤ cap ∧ cap ≤ maxLen ∧ zs.length = cap ∧ (∀ i, i < zs.length → w.cell? (x.add i) = some (.int k (zs.getD i 0))) ∧ ∀ n ∈ zs, (Lit.int k n).wf = true
theorem open_G {H : Type} {enc : TypeId × Value → H} {W : World} {base : Nat} {r : Reach} {v : Value} {d : DataW H} {ps : List MemPlace} (hval : Value.okWide Try.prog W r base 25 v) (hd : DataW.Trod enc Try.prog W 0 (fun _ => true) true 25 v d ps) :
    ∃ (a0 : Option Addr) (len0 cap0 : Nat) (z0 : List Int) (a1 : Option Addr) (len1 cap1 : Nat) (z1 : List Int), v = .agg #[.slice a0 len0 cap0, .slice a1 len1 cap1] ∧ IsRow .i64 W a0 len0 cap0 z0 ∧ IsRow .i64 W a1 len1 cap1 z1 := by
  obtain ⟨cs, rfl, _⟩ := okWide_struct Try.underlying25 hval
  obtain ⟨fuel, hf⟩ := hd
  obtain ⟨xs, n, _, _, hl, hlen, hfs⟩ := DataW.trod_struct Try.underlying25 hf
  have e := show Try.prog.cellsOf 25 = 2 by kernel_rfl
  have e1 := show Try.prog.cellsOf 23 = 1 by kernel_rfl
  rw [e] at hl
  have hl2 : cs.toList.length = 2 := hl
  obtain ⟨l⟩ := cs
  simp only [Value.cells] at hl hl2 hfs hf
  have key : ∀ (c : Value) (x : DataW H × List MemPlace), DataW.trod enc Try.prog W 0 (fun _ => true) true n 23 [c] = some x → ∃ (a : Option Addr) (len cap : Nat) (z : List Int), c = .slice a len cap ∧ IsRow .i64 W a len cap z := by
    intro c x hx
    rcases open_ints Try.underlying23 Try.underlying3 (by kernel_rfl) hx with ⟨hcs, _⟩ | ⟨x, l, c, zs, hcs, _, hl, hm, hz, _, hcell, hwz⟩
    · simp at hcs
      exact ⟨none, 0, 0, [], hcs, .inl ⟨rfl, rfl, rfl, rfl⟩⟩
    · simp at hcs
      exact ⟨some x, l, c, zs, hcs, .inr ⟨_, rfl, hl, hm, by simpa using hz, hcell, hwz⟩⟩
  match l, hl2 with
  | [c0, c1], _ =>
    match xs, hlen with
    | [x0, x1], _ =>
      have g0 : DataW.trod enc Try.prog W 0 (fun _ => true) true n 23 (([c0, c1].drop 0).take (Try.prog.cellsOf 23)) = some x0 := hfs 0 _ rfl
      rw [e1] at g0
      have g1 : DataW.trod enc Try.prog W 0 (fun _ => true) true n 23 (([c0, c1].drop 1).take (Try.prog.cellsOf 23)) = some x1 := hfs 1 _ rfl
      rw [e1] at g1
      obtain ⟨a0, len0, cap0, z0, rfl, w0⟩ := key c0 x0 g0
      obtain ⟨a1, len1, cap1, z1, rfl, w1⟩ := key c1 x1 g1
      exact ⟨a0, len0, cap0, z0, a1, len1, cap1, z1, rfl, w0, w1⟩
open Go.Proofs.YtaniolefeieliaaW.PrintWords Go.Proofs.Ytaniolefeieliaa.MRangesExact
open Go.Deep (open_slice)
theorem open_rng {H : Type} {enc : TypeId × Value → H} {W : World} {a0 : Option Addr} {len0 cap0 : Nat} {d : DataW H} {ps : List MemPlace} (hd : DataW.Trod enc Try.prog W 0 (fun _ => true) true 22 (.slice a0 len0 cap0) d ps) :
    ∃ l : List S44, len0 = l.length ∧ l.length ≤ cap0 ∧ l.length ≤ maxLen ∧ Kd.C k44 W a0 l.length l ∧ ∀ x ∈ l, (Lit.int .i64 x.f0).wf = true ∧ (Lit.int .i64 x.f1).wf = true ∧ (Lit.int .i64 x.f2).wf = true := by
  obtain ⟨fuel, hf⟩ := hd
  have e := show Try.prog.cellsOf 44 = 3 by kernel_rfl
  have e3 := show Try.prog.cellsOf 3 = 1 by kernel_rfl
  rcases open_slice Try.underlying22 hf with ⟨hcs, _⟩ | ⟨a, len, cap, m, n, D, Pl, hcs, _, hl, hm, hmm, _, hx⟩
  · simp [Value.cells] at hcs
    obtain ⟨rfl, rfl, rfl⟩ := hcs
    exact ⟨[], rfl, Nat.le_refl _, Nat.zero_le _, ⟨rfl, Nat.zero_le _, fun h => absurd h (Nat.lt_irrefl _)⟩, fun x hx => absurd hx List.not_mem_nil⟩
  · simp [Value.cells] at hcs
    obtain ⟨rfl, rfl, rfl⟩ := hcs
    have hlm : len0 ≤ m := by rw [hmm]; simp; omega
    rw [e] at hx
    have key : ∀ i, i < len0 → ∃ x : S44, (∀ j u, ([.int .i64 x.f0, .int .i64 x.f1, .int .i64 x.f2] : List Value)[j]? = some u → W.cell? (a.add (i * 3 + j)) = some u) ∧ (Lit.int .i64 x.f0).wf = true ∧ (Lit.int .i64 x.f1).wf = true ∧ (Lit.int .i64 x.f2).wf = true := by
      intro i hi
      obtain ⟨cs, h1, h2⟩ := hx i (by omega)
      obtain ⟨_, hcl, hcc⟩ := World.cells?_some h1
      obtain ⟨xs, n2, _, _, _, hlen, hfs⟩ := DataW.trod_struct Try.underlying44 h2
      match cs, hcl with
      | [c0, c1, c2], _ =>
        match xs, hlen with
        | [x0, x1, x2], _ =>
          have g0 : DataW.trod enc Try.prog W 0 (fun _ => true) true n2 3 (([c0, c1, c2].drop 0).take (Try.prog.cellsOf 3)) = some x0 := hfs 0 _ rfl
          rw [e3] at g0
          obtain ⟨n0_, h0_, _, w0_⟩ := DataW.trod_int Try.underlying3 (cs := [c0]) g0
          have g1 : DataW.trod enc Try.prog W 0 (fun _ => true) true n2 3 (([c0, c1, c2].drop 1).take (Try.prog.cellsOf 3)) = some x1 := hfs 1 _ rfl
          rw [e3] at g1
          obtain ⟨n1_, h1_, _, w1_⟩ := DataW.trod_int Try.underlying3 (cs := [c1]) g1
          have g2 : DataW.trod enc Try.prog W 0 (fun _ => true) true n2 3 (([c0, c1, c2].drop 2).take (Try.prog.cellsOf 3)) = some x2 := hfs 2 _ rfl
          rw [e3] at g2
          obtain ⟨n2_, h2_, _, w2_⟩ := DataW.trod_int Try.underlying3 (cs := [c2]) g2
          simp only [List.cons.injEq, and_true] at h0_ h1_ h2_
          subst h0_ h1_ h2_
          refine ⟨⟨n0_, n1_, n2_⟩, fun j u hu => ?_, w0_, w1_, w2_⟩
          rw [← Addr.add_add, hcc j (List.getElem?_eq_some_iff.1 hu).1]
          exact hu
    have hf2 : ∃ f : Nat → S44, ∀ i, i < len0 → (∀ j u, ([.int .i64 (f i).f0, .int .i64 (f i).f1, .int .i64 (f i).f2] : List Value)[j]? = some u → W.cell? (a.add (i * 3 + j)) = some u) ∧ (Lit.int .i64 (f i).f0).wf = true ∧ (Lit.int .i64 (f i).f1).wf = true ∧ (Lit.int .i64 (f i).f2).wf = true :=
      open Classical in ⟨fun i => if h : i < len0 then (key i h).choose else ⟨0, 0, 0⟩, fun i hi => by simp only [dif_pos hi]; exact (key i hi).choose_spec⟩
    obtain ⟨f, hf2⟩ := hf2
    refine ⟨(List.range len0).map f, by simp, by simpa using hl, by simp; omega, ⟨rfl, by simp; unfold maxLen at hm; omega, fun _ => ⟨a, rfl, fun j p hj => ?_⟩⟩, fun x hxm => ?_⟩
    · have hjl : j < len0 := by
        have := (List.getElem?_eq_some_iff.1 hj).1
        simpa using this
      obtain rfl : f j = p := by simpa [hjl] using hj
      exact ⟨_, rfl, k44_mk W (f j), fun i u hu => (hf2 j hjl).1 i u hu⟩
    · obtain ⟨i, hi, rfl⟩ := List.mem_map.1 hxm
      exact (hf2 i (List.mem_range.1 hi)).2
set_option maxRecDepth 100000 in
theorem lifted (os : Os) (started : os.Started) (H : Type) (enc : TypeId × Value → H) :
    ReturnsInHanded {} Try.checked os 4 .any (Rows.rangesExactSpec.pre6 enc Try.prog Try.f4 Rows.rangesExactRow.domain false) (Rows.rangesExactSpec.post enc Try.prog Try.f4 false true false false) := by
  refine returnsInHanded_of_change_sized (C := Try.checked) own started (by kernel_rfl) Try.func4
    (ChangeSpec.witness6 (enc := enc) (C := Try.checked) false ⟨#[], #[.slice none 0 0, .int .i64 0, .agg #[.slice none 0 0, .slice none 0 0]], []⟩ 8 (by kernel_rfl) (by kernel_rfl) (by kernel_rfl) (by kernel_rfl)) ?_
  intro W base args ds gs before hval0 hW hcnd hsz0 _
  have hsz : (DataW.weightsEach Try.prog (Try.f4.params.toList ++ Rows.rangesExactSpec.plain.varTypes Try.prog) (ds ++ gs)).all (· ≤ reachBytes) = true := hsz0
  have hval : ∀ (j : Nat) t v, Try.f4.params[j]? = some t → args[j]? = some v → Value.okWide Try.prog W .any base t v := hval0
  have hW' := hW
  obtain ⟨p, q, hA0, hV, rfl, hfz, hnd⟩ := hW
  have hA : DataW.TrodAll enc Try.prog W 0 (fun _ => true) true Try.f4.params.toList args.toList ds p := hA0
  rw [Try.params4] at hA hval hsz
  obtain ⟨v0, vs0, d0, ds0, p0, q0, hargs, rfl, rfl, h0, r0⟩ := trodAll_cons hA
  obtain ⟨v1, vs1, d1, ds1, p1, q1, rfl, rfl, rfl, h1, r1⟩ := trodAll_cons r0
  obtain ⟨v2, vs2, d2, ds2, p2, q2, rfl, rfl, rfl, h2, r2⟩ := trodAll_cons r1
  obtain ⟨rfl, rfl, rfl⟩ := trodAll_nil r2
  obtain rfl : args = #[v0, v1, v2] := by cases args; simp_all
  obtain ⟨rfl, rfl⟩ := trodVars_none hV
  obtain ⟨a0, len0, cap0, rfl⟩ := okWide_slice Try.underlying22 (hval 0 22 v0 rfl rfl)
  have k0 := h0
  have lt0 : ∀ x ∈ p0, x.block < W.heap.size := by obtain ⟨m, hm⟩ := k0; exact DataW.trod_lt m _ _ _ hm
  obtain ⟨l0, rfl, hc0, hm0, hr0, hw0⟩ := open_rng h0
  obtain ⟨a1, rfl, rfl, rfl, w1⟩ := open_int Try.underlying3 (hval 1 3 v1 rfl rfl) h1
  have k2 := h2
  have lt2 : ∀ x ∈ p2, x.block < W.heap.size := by obtain ⟨m, hm⟩ := k2; exact DataW.trod_lt m _ _ _ hm
  obtain ⟨a2_0, len2_0, cap2_0, z2_0, a2_1, len2_1, cap2_1, z2_1, rfl, w2_0, w2_1⟩ := open_G (hval 2 25 v2 rfl rfl) h2
  clear hA0 hval0 hsz0 hsz
  refine (MRangesExact.sobriquetlaw05_RangesExact.walk Pure.RangesExact a0 cap0 l0 a1 a2_0 len2_0 cap2_0 z2_0 a2_1 len2_1 cap2_1 z2_1 W hr0 hc0 hm0 hw0 w1 w2_0 w2_1).mono fun e W' ⟨he, bel⟩ => ?_
  subst he
  exact ⟨_, rfl, _, _, _, [], _, [], hW', trodAll_mk1 (shut_bool Try.underlying4 _), (trodAll_cons_mk (Below.trod laidOut (by kernel_rfl) (of_decide_eq_true (by kernel_rfl)) k0 bel lt0) (trodAll_cons_mk (shut_int Try.underlying3 w1) (trodAll_cons_mk (Below.trod laidOut (by kernel_rfl) (of_decide_eq_true (by kernel_rfl)) k2 bel lt2) trodAll_mk0))), rfl, bel.frame _, fun h => by cases h⟩
theorem over : Rows.rangesExactRow.holds Try.pinned (OpenSpec.ofChange Rows.rangesExactSpec) :=
  OpenClaim.holds_of_wide 4 Try.f4 rfl rfl rfl rfl rfl rfl rfl ⟨rfl, rfl, rfl, rfl, rfl⟩ rfl rfl rfl rfl rfl (by kernel_rfl) Try.func4 (by kernel_rfl)
    (of_decide_eq_true (by kernel_rfl)) (by unfold Func.isWrapper; first | (rw [if_pos (by decide +kernel)]; kernel_rfl) | (rw [if_neg (by decide +kernel)]; exact ⟨rfl, rfl⟩))
    (fun os started H enc _ => lifted os started H enc)
theorem proved : Rows.RangesExactSaid := over
#print axioms proved
end Go.Proofs.Ytaniolefeieliaa.rangesExact
namespace Go.Proofs.Ytaniolefeieliaa
/-- The row, under a short name, for the claim. -/
theorem rangesExact_holds : Rows.RangesExactSaid := rangesExact.proved
end Go.Proofs.Ytaniolefeieliaa
