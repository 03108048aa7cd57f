/- What the functions of Go's library that the identifiers' layer calls do, over a world in which the library's variables stand as start-up lays them. -/
import Derived.Test.YtdnclldebkpkfaaDoorShelf
import Derived.Test.YtdnclldebkpkfaaDoorWWords
import Derived.Lib.AppendIntMem
namespace Go.Proofs.YtdnclldebkpkfaaDoor.Oid
open Go.RowKit Go.Proofs.YtdnclldebkpkfaaDoorW.PrintWords
open Go.Proofs
set_option linter.unusedVariables false
set_option linter.unusedSimpArgs false
/-- The library's table of powers, the greatest length for a quick search, the two errors of strconv. -/
def Glob (w : World) : Prop :=
  Lib.TabIs Tryd.prog w "internal/strconv.uint64pow10" .u64 Lib.pow10Tab ∧ (∃ m, w.cell? ⟨2, 0, none⟩ = some (.int .i64 m)) ∧
  (∃ tp p, w.var? Tryd.prog "strconv.ErrSyntax" = some #[.iface tp p]) ∧ (∃ tp p, w.var? Tryd.prog "strconv.ErrRange" = some #[.iface tp p])
theorem var_on {w w' : World} {name : String} {v : Array Value} (h : w.var? Tryd.prog name = some v) (hb : Below w.heap.size w w') : w'.var? Tryd.prog name = some v := by
  unfold World.var? at *
  cases hg : Tryd.prog.globalNamed name with
  | none => simp [hg] at h
  | some g =>
    simp only [hg, Option.bind_some] at h ⊢
    have hlt : g < w.heap.size := by
      rcases Nat.lt_or_ge g w.heap.size with h' | h'
      · exact h'
      · simp [Array.getElem?_eq_none h'] at h
    rw [hb.block g hlt]
    exact h
theorem Glob.on {w w' : World} (h : Glob w) (hb : Below w.heap.size w w') : Glob w' := by
  obtain ⟨h1, ⟨m, h2⟩, ⟨t3, p3, h3⟩, ⟨t4, p4, h4⟩⟩ := h
  exact ⟨(Lib.tabBelow_of_tabIs h1) w' hb, ⟨m, pw_cell_below hb h2⟩, ⟨t3, p3, var_on h3 hb⟩, ⟨t4, p4, var_on h4 hb⟩⟩
theorem Glob.alloc {w : World} (h : Glob w) (o : Obj) : Glob (w.alloc o) := h.on (below_alloc (Below.refl _ _) o)
theorem Glob.drew {w : World} (h : Glob w) : Glob w.drew := h.on (below_drew (Below.refl _ _))
theorem Glob.drewN {w : World} (h : Glob w) (n : Nat) : Glob (w.drewN n) := h.on (pw_below_drewN (Below.refl _ _) n)
theorem plain_of_cell {w : World} {ad : Addr} {v : Value} (h : w.cell? (ad.add 0) = some v) : ∃ b off, ad = ⟨b, off, none⟩ := by
  obtain ⟨b, off, spot⟩ := ad
  cases spot with
  | none => exact ⟨b, off, rfl⟩
  | some s =>
    unfold World.cell? at h
    simp [Addr.add] at h
    split at h <;> simp at h
theorem add_nat (b off j : Nat) : (⟨b, off, none⟩ : Addr).add j = ⟨b, off + j, none⟩ := by
  unfold Addr.add
  by_cases h : j = 0
  · subst h; simp
  · simp [h]
/-! ### slices.Min -/
def minF (l : List Int) : Option Int := if l = [] then none else some (Lib.minOf l)
theorem min_calls (A0 : Option Addr) (c0 : Nat) (l0 : List Int) (r : Int) (w : World) (hr0 : Kd.C (Kd.int .i64) w A0 l0.length l0) (h : minF l0 = some r) :
    Calls Tryd.prog 21 #[.slice A0 l0.length c0] w fun e w' => e = .returned (.int .i64 r) ∧ Drawn0 w w' := by
  unfold minF at h
  by_cases h0 : l0 = []
  · rw [if_pos h0] at h; cases h
  · rw [if_neg h0] at h
    obtain rfl := Option.some.inj h
    have hp : 0 < l0.length := List.length_pos_iff.2 h0
    have hR := Kd.reads_of_C (d := (0 : Int)) hr0
    obtain ⟨ad, he, hc⟩ := hR.2.2 hp
    subst he
    obtain ⟨b, off, rfl⟩ := plain_of_cell (hc 0 hp)
    have hm := Tryd.slices_Min_int b off l0.length c0 l0 w hp (Nat.le_refl _) hR.2.1 (fun j hj => by
      have := hc j hj
      rw [add_nat] at this
      exact this)
    rw [List.take_length] at hm
    exact hm.mono fun e w' ⟨he, hw⟩ => ⟨he, hw ▸ Drawn0.refl w⟩
/-! ### strconv.Itoa -/
def itoaF (n : Int) : Option ByteArray := if -9223372036854775808 ≤ n ∧ n ≤ 9223372036854775807 then some ⟨(Lib.itoa n).toArray⟩ else none
theorem itoa_calls (n : Int) (r : ByteArray) (w : World) (h : itoaF n = some r) (hG : Glob w) :
    Calls Tryd.prog 26 #[.int .i64 n] w fun e w' => e = .returned (.string r) ∧ Below w.heap.size w w' := by
  unfold itoaF at h
  by_cases h0 : -9223372036854775808 ≤ n ∧ n ≤ 9223372036854775807
  · rw [if_pos h0] at h
    obtain rfl := Option.some.inj h
    refine (Tryd.strconv_Itoa n h0.1 h0.2 w hG.1).mono fun e w' ⟨he, k, os, hw⟩ => ⟨he, ?_⟩
    rw [hw]
    exact Lib.below_grow _ _ (Nat.le_refl _) _ _
  · rw [if_neg h0] at h; cases h
/-! ### strings.Join -/
def joinF (l : List ByteArray) (s : ByteArray) : Option ByteArray :=
  if l.length ≤ 1000000 ∧ (Lib.join (l.map (·.data.toList)) s.data.toList).length ≤ 140737488355328 then some ⟨(Lib.join (l.map (·.data.toList)) s.data.toList).toArray⟩ else none
theorem join_calls (A0 : Option Addr) (c0 : Nat) (l0 : List ByteArray) (a1 r : ByteArray) (w : World) (hr0 : Kd.C Kd.string w A0 l0.length l0) (hc0 : l0.length ≤ c0) (h : joinF l0 a1 = some r) :
    Calls Tryd.prog 27 #[.slice A0 l0.length c0, .string a1] w fun e w' => e = .returned (.string r) ∧ Below w.heap.size w w' := by
  unfold joinF at h
  split at h
  · rename_i hl
    obtain rfl := Option.some.inj h
    rcases Nat.eq_zero_or_pos l0.length with h0 | h0
    · obtain rfl := List.eq_nil_of_length_eq_zero h0
      exact (Tryd.strings_Join_none A0 c0 a1 w).mono fun e w' ⟨he, hw⟩ => ⟨he, hw ▸ Below.refl _ _⟩
    · obtain ⟨ad, he, hc⟩ := Kd.at_string hr0 0 (Int.le_refl _) (by omega)
      subst he
      obtain ⟨b, off, rfl⟩ := plain_of_cell hc
      exact Tryd.strings_Join b off c0 l0 a1 w (fun j x hj => by
        have hjl := (List.getElem?_eq_some_iff.1 hj).1
        obtain ⟨ad, he, hc⟩ := Kd.at_string hr0 (j : Int) (by omega) (by omega)
        cases he
        rw [Int.toNat_natCast, add_nat] at hc
        rw [hc]
        simp [rdOf, List.getD_eq_getElem?_getD, hj]) (World.block_lt_of_cell? w _ hc) (by omega) hc0 hl.2
  · cases h
end Go.Proofs.YtdnclldebkpkfaaDoor.Oid
