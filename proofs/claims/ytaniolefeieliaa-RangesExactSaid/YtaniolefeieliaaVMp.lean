/- A map whose keys are arrays of whole numbers: what it tells of a key, what a new key makes of it. -/
import Derived.Test.YtaniolefeieliaaVWMore
import Derived.DeepKeys3
import Derived.MapKept
namespace Go.Proofs.Ytaniolefeieliaa.Mp
open Go.RowKit Go.Proofs.YtaniolefeieliaaW.PrintWords
set_option linter.unusedVariables false
set_option linter.unusedSimpArgs false
/-- Whole numbers, as an array holds them. -/
def enc (xs : List Int) : Array Value := (xs.map (fun x => Value.int .i64 x)).toArray
theorem enc_size (xs : List Int) : (enc xs).size = xs.length := by simp [enc]
theorem enc_at (xs : List Int) (i : Nat) (h : i < xs.length) : (enc xs)[i]? = some (.int .i64 (xs.getD i 0)) := by
  simp [enc, List.getD_eq_getElem?_getD, List.getElem?_eq_getElem h]
section
variable {P : Program} {t e : TypeId} {n : Nat} {inf : TypeInfo}
theorem run_part_int (w : World) (he : P.underlying e = some (.int .i64)) (xs : List Int) (i : Nat) (h : i < xs.length) : (part e (enc xs) i).run P w = .ok (.int .i64 (xs.getD i 0)) w :=
  run_part_plain w (by simp [Program.plainKey, he]) (enc_at xs i h)
theorem run_items (w : World) (d : Nat) (he : P.underlying e = some (.int .i64)) (hc : P.cellsOf e = 1) (xs ys : List Int) : ∀ is : List Nat, (∀ i ∈ is, i < xs.length ∧ i < ys.length) →
    (Op.eqItems (d + 1) e (P.cellsOf e) (enc xs) (enc ys) is).run P w = .ok (is.all (fun i => xs.getD i 0 == ys.getD i 0)) w
  | [], _ => by simp [Op.eqItems]
  | i :: is, h => by
    have hi := h i List.mem_cons_self
    have p1 := run_part_int w he xs i hi.1
    have p2 := run_part_int w he ys i hi.2
    have p3 : (Op.equalIn (d + 1) e (.int .i64 (xs.getD i 0)) (.int .i64 (ys.getD i 0))).run P w = .ok (xs.getD i 0 == ys.getD i 0) w := by
      simp [Op.equalIn, run_underlying he]
    have ih := run_items w d he hc xs ys is (fun j hj => h j (List.mem_cons_of_mem _ hj))
    simp only [Op.eqItems, Sem.run_bind, hc, Nat.mul_one, p1, p2, p3, Result.andThen_ok, List.all_cons]
    rw [hc] at ih
    by_cases q : (xs.getD i 0 == ys.getD i 0) = true
    · simp only [q, Bool.not_true, Bool.false_eq_true, if_false, Bool.true_and, Sem.run_pure, Result.andThen_ok]
      exact ih
    · rw [Bool.not_eq_true] at q
      simp only [q, Bool.not_false, if_true, Bool.false_and, Sem.run_pure, Result.andThen_ok]
theorem run_equal_arr (w : World) (ht : P.underlying t = some (.array n e)) (he : P.underlying e = some (.int .i64)) (hc : P.cellsOf e = 1) (hi : P.info? e = some inf) (xs ys : List Int) (hx : xs.length = n) (hy : ys.length = n) :
    (Op.equal t (.agg (enc xs)) (.agg (enc ys))).run P w = .ok (decide (xs = ys)) w := by
  unfold Op.equal Op.maxDepth
  rw [run_equalIn_array w 9999 _ _ ht hi, run_items w 9998 he hc xs ys _ (fun i h => by rw [List.mem_range] at h; omega)]
  congr 1
  rw [Bool.eq_iff_iff, List.all_eq_true, decide_eq_true_eq]
  refine ⟨fun h => List.ext_getElem (by omega) (fun i h1 h2 => ?_), fun h => by subst h; simp⟩
  have := h i (List.mem_range.2 (by omega))
  rw [beq_iff_eq, List.getD_eq_getElem?_getD, List.getD_eq_getElem?_getD, List.getElem?_eq_getElem h1, List.getElem?_eq_getElem h2] at this
  exact this
theorem run_checkKey_arr (w : World) (em : Bool) (ht : P.underlying t = some (.array n e)) (he : P.underlying e = some (.int .i64)) (hc : P.cellsOf e = 1) (hi : P.info? e = some inf) (xs : List Int) (hx : xs.length = n) :
    (Instr.checkKey em 10000 t (.agg (enc xs))).run P w = .ok () w := by
  rw [show (10000 : Nat) = 9998 + 1 + 1 from rfl, Instr.checkKey]
  simp only [Sem.run_bind, run_underlying ht, Result.andThen_ok]
  simp only [Std.Legacy.Range.forIn_eq_forIn_range', Std.Legacy.Range.size, Nat.sub_zero, Nat.add_one_sub_one, Nat.div_one]
  have each : ∀ i ∈ List.range' 0 n, i < xs.length := fun i h => by
    rw [List.mem_range'] at h
    omega
  generalize List.range' 0 n = is at each
  induction is with
  | nil => simp
  | cons j is ih =>
    have p1 := run_part_int w he xs j (each j List.mem_cons_self)
    have p2 : (Instr.checkKey em (9998 + 1) e (.int .i64 (xs.getD j 0))).run P w = .ok () w := by
      rw [Instr.checkKey]
      simp [run_underlying he]
    simp only [List.forIn_cons, Sem.run_bind, run_sizeOf w hi, Result.andThen_ok, hc, Nat.mul_one, p1, p2, Sem.run_pure]
    have ih' := ih (fun y hy => each y (List.mem_cons_of_mem _ hy))
    (try simp only [hc, Nat.mul_one] at ih')
    exact ih'
/-- The entries: the blocks, each with its place. -/
def entry (b : List Int) (i : Nat) (born : Nat) : MapEntry := { key := .agg (enc b), val := .int .i64 i, born := born }
def Entries (n : Nat) (bs : List (List Int)) (es : Array MapEntry) : Prop := es.size = bs.length ∧ (∀ b ∈ bs, b.length = n) ∧ ∀ i (h : i < bs.length), ∃ born, es[i]? = some (entry bs[i] i born)
theorem findAsking_at (w : World) (ht : P.underlying t = some (.array n e)) (he : P.underlying e = some (.int .i64)) (hc : P.cellsOf e = 1) (hi : P.info? e = some inf) (x : List Int) (hx : x.length = n) :
    ∀ (bs : List (List Int)) (es : List MapEntry) (o : Nat), (∀ b ∈ bs, b.length = n) → es.length = bs.length → (∀ i (h : i < bs.length), ∃ born, es[i]? = some (entry bs[i] (o + i) born)) →
      (Instr.findAsking t (.agg (enc x)) es o).run P w = .ok (if x ∈ bs then some (o + bs.idxOf x, .int .i64 ((o + bs.idxOf x : Nat) : Int)) else none) w
  | [], es, o, hb, hl, hs => by
    obtain rfl : es = [] := List.eq_nil_of_length_eq_zero hl
    simp [Instr.findAsking]
  | b :: bs, [], o, hb, hl, hs => by simp at hl
  | b :: bs, y :: es, o, hb, hl, hs => by
    obtain ⟨born, hy⟩ := hs 0 (by simp)
    simp only [List.getElem?_cons_zero, Option.some.injEq, List.getElem_cons_zero, Nat.add_zero] at hy
    subst hy
    have q := run_equal_arr w ht he hc hi x b hx (hb b List.mem_cons_self)
    rw [Instr.findAsking]
    simp only [Sem.run_bind, entry, q, Result.andThen_ok]
    by_cases h : x = b
    · subst h
      simp
    · rw [decide_eq_false h]
      simp only [Bool.false_eq_true, if_false]
      have ih := findAsking_at w ht he hc hi x hx bs es (o + 1) (fun z hz => hb z (List.mem_cons_of_mem _ hz)) (by simpa using hl) (fun i hi' => by
        obtain ⟨born, h2⟩ := hs (i + 1) (by simp; omega)
        refine ⟨born, ?_⟩
        simp only [List.getElem?_cons_succ, List.getElem_cons_succ] at h2
        rw [h2, show o + (i + 1) = o + 1 + i by omega])
      rw [ih]
      have hm : (x ∈ b :: bs) ↔ x ∈ bs := by simp [h]
      have hidx : (b :: bs).idxOf x = bs.idxOf x + 1 := by
        rw [List.idxOf_cons]
        have : (b == x) = false := by simpa using Ne.symm h
        rw [this]
        rfl
      simp only [hm, hidx, show o + 1 + bs.idxOf x = o + (bs.idxOf x + 1) by omega]
theorem run_findKey (w : World) (ht : P.underlying t = some (.array n e)) (he : P.underlying e = some (.int .i64)) (hc : P.cellsOf e = 1) (hi : P.info? e = some inf) (x : List Int) (hx : x.length = n) (bs : List (List Int)) (es : Array MapEntry) (hE : Entries n bs es) :
    (Instr.findKey t (.agg (enc x)) es.toList).run P w = .ok (if x ∈ bs then some (bs.idxOf x, .int .i64 ((bs.idxOf x : Nat) : Int)) else none) w := by
  obtain ⟨h1, h2, h3⟩ := hE
  rw [Instr.findKey]
  simp only [Sem.run_bind, run_underlying ht, Result.andThen_ok]
  have ha := findAsking_at w ht he hc hi x hx bs es.toList 0 h2 (by rw [Array.length_toList]; exact h1) (fun i hi' => by
    obtain ⟨born, h4⟩ := h3 i hi'
    exact ⟨born, by rw [Array.getElem?_toList, h4, Nat.zero_add]⟩)
  simp only [Nat.zero_add] at ha
  cases hes : es.toList with
  | nil =>
    have hb : bs = [] := List.eq_nil_of_length_eq_zero (by rw [← h1, ← Array.length_toList, hes]; rfl)
    subst hb
    simp [Instr.findNow]
  | cons y r =>
    rw [hes] at ha
    simp only [Instr.findNow, Instr.sameNow]
    exact ha
theorem run_lookup (w : World) {T : TypeId} {ev : TypeId} (hT : P.underlying T = some (.map t ev)) (hev : P.underlying ev = some (.int .i64)) (hz : (zeroValue ev).run P w = .ok (.int .i64 0) w) (ht : P.underlying t = some (.array n e)) (he : P.underlying e = some (.int .i64)) (hc : P.cellsOf e = 1) (hi : P.info? e = some inf)
    (m : Nat) (es : Array MapEntry) (clock : Nat) (hm : w.heap[m]? = some (.map es clock)) (x : List Int) (hx : x.length = n) (bs : List (List Int)) (hE : Entries n bs es) :
    (Instr.lookup T (.map (some m)) (.agg (enc x)) true).run P w = .ok (.tuple #[.int .i64 (if x ∈ bs then ((bs.idxOf x : Nat) : Int) else 0), .bool (decide (x ∈ bs))]) w := by
  rw [Instr.lookup]
  simp only [Sem.run_bind, run_underlying hT, Result.andThen_ok, MapKept.run_getObj_map hm, Sem.run_pure, run_checkKey_arr w _ ht he hc hi x hx, run_findKey w ht he hc hi x hx bs es hE]
  by_cases h : x ∈ bs
  · simp [h]
  · simp [h, hz]
theorem run_update (w : World) {T : TypeId} {ev : TypeId} (hT : P.underlying T = some (.map t ev)) (ht : P.underlying t = some (.array n e)) (he : P.underlying e = some (.int .i64)) (hc : P.cellsOf e = 1) (hi : P.info? e = some inf)
    (m : Nat) (es : Array MapEntry) (clock : Nat) (hm : w.heap[m]? = some (.map es clock)) (x : List Int) (hx : x.length = n) (bs : List (List Int)) (hE : Entries n bs es) (hn : x ∉ bs) (v : Value) :
    (Instr.mapUpdate T (.map (some m)) (.agg (enc x)) v).run P w = .ok () { w with heap := w.heap.setIfInBounds m (.map (es.push { key := .agg (enc x), val := v, born := clock }) (clock + 1)) } := by
  rw [Instr.mapUpdate]
  simp only [Sem.run_bind, run_underlying hT, Result.andThen_ok, MapKept.run_getObj_map hm, run_checkKey_arr w _ ht he hc hi x hx, run_findKey w ht he hc hi x hx bs es hE, if_neg hn]
  exact MapKept.run_setObj_map _ hm
theorem Entries.push {bs : List (List Int)} {es : Array MapEntry} (h : Entries n bs es) (x : List Int) (hx : x.length = n) (clock : Nat) : Entries n (bs ++ [x]) (es.push { key := .agg (enc x), val := .int .i64 (bs.length : Nat), born := clock }) := by
  obtain ⟨h1, h2, h3⟩ := h
  refine ⟨by simp [h1], fun b hb => ?_, fun i hi => ?_⟩
  · rcases List.mem_append.1 hb with hb | hb
    · exact h2 b hb
    · rw [List.mem_singleton.1 hb]; exact hx
  · rw [Array.getElem?_push]
    by_cases q : i < bs.length
    · obtain ⟨born, h4⟩ := h3 i q
      exact ⟨born, by rw [if_neg (by omega), h4, List.getElem_append_left q]⟩
    · have : i = bs.length := by rw [List.length_append, List.length_singleton] at hi; omega
      subst this
      refine ⟨clock, ?_⟩
      rw [if_pos h1.symm]
      simp [entry]
end
end Go.Proofs.Ytaniolefeieliaa.Mp
