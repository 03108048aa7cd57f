/- The contract of oid.Parse. -/
import Derived.Test.YtdnclldebkpkfaaDoorOb1
namespace Go.Proofs.YtdnclldebkpkfaaDoor.Oid
open Go.RowKit Go.Proofs.YtdnclldebkpkfaaDoorW.PrintWords Go.Proofs.YtdnclldebkpkfaaDoorW.PrintLast Go.Proofs.YtdnclldebkpkfaaDoorW.PrintMore
open Go.Proofs
attribute [local go_sem] max2_int min2_int max_two min_two max_three min_three max_four min_four
set_option linter.unusedVariables false
set_option linter.unusedSimpArgs false
set_option linter.unnecessarySimpa false
/-! ### What it computes -/
def stepW (x : ByteArray) (l : List Int) : Option (List Int) :=
  match Lib.atoiAll x.data.toList with
  | .ok v => if (⟨(Lib.itoa v).toArray⟩ : ByteArray) = x then (if (40 : Int) < (l.length : Int) then none else some (l ++ [v])) else none
  | _ => none
def parseL : List ByteArray → List Int → Option (List Int)
  | [], l => some l
  | x :: r, l => (stepW x l).bind (parseL r)
def parseR : Option (List Int) → Option (List Int × Int)
  | none => some ([], 8)
  | some l => (oid_Check.f l).bind fun e => if e = 0 then some (l, 0) else some ([], e)
def words (s : ByteArray) : List ByteArray := Lib.splitB ⟨#[46]⟩ 0 (Lib.countB s ⟨#[46]⟩) s
def parseF (s : ByteArray) : Option (List Int × Int) := if s.size < 4294967281 then parseR (parseL (words s) []) else none
/-! ### Atoi -/
theorem atoi_ok (s : ByteArray) (hs : s.size ≤ 281474976710656) (v : Int) (h : Lib.atoiAll s.data.toList = .ok v) (w : World) :
    Calls Tryd.prog 25 #[.string s] w fun e w' => e = .returned (.tuple #[.int .i64 v, .nilIface]) ∧ Below w.heap.size w w' := by
  refine (Tryd.strconv_Atoi_ok s (by omega) v h w).mono fun e w' ⟨he, hw⟩ => ⟨he, ?_⟩
  rcases hw with rfl | ⟨t, rfl⟩
  · exact Below.refl _ _
  · exact bytes_below (Below.refl _ _) (Nat.le_refl _) _ _
theorem atoi_no (s : ByteArray) (hs : s.size ≤ 281474976710656) (h : ∀ v, Lib.atoiAll s.data.toList ≠ .ok v) (w : World) (hG : Glob w) :
    ∃ t : Nat, Calls Tryd.prog 25 #[.string s] w fun e w' => (∃ n N, e = .returned (.tuple #[.int .i64 n, .iface t (.pointer (some ⟨N, 0, none⟩))])) ∧ Below w.heap.size w w' := by
  obtain ⟨_, _, ⟨t3, p3, h3⟩, ⟨t4, p4, h4⟩⟩ := hG
  cases ha : Lib.atoiAll s.data.toList
  · exact absurd ha (h _)
  · exact ⟨_, (Any.strconv_Atoi_syntax_var Tryd.laysC172 s hs ha t3 p3 w h3).mono fun e w' ⟨N, he, _, _, hb⟩ => ⟨⟨_, N, he⟩, hb⟩⟩
  · exact ⟨_, (Any.strconv_Atoi_range_var Tryd.laysC172 s hs ha t4 p4 w h4).mono fun e w' ⟨N, he, _, _, hb⟩ => ⟨⟨_, N, he⟩, hb⟩⟩
theorem step_no {x : ByteArray} (h : ∀ v, Lib.atoiAll x.data.toList ≠ .ok v) (l : List Int) : stepW x l = none := by
  unfold stepW
  cases ha : Lib.atoiAll x.data.toList
  · exact absurd ha (h _)
  · rfl
  · rfl
/-! ### The words -/
theorem split_sizes (sep : ByteArray) : ∀ (k : Nat) (s : ByteArray), ∀ x ∈ Lib.splitB sep 0 k s, x.size ≤ s.size
  | 0, s => fun x hx => by
    rw [Lib.splitB_zero, List.mem_singleton] at hx
    rw [hx]
    exact Nat.le_refl _
  | k + 1, s => fun x hx => by
    unfold Lib.splitB at hx
    split at hx
    · rw [List.mem_singleton] at hx
      rw [hx]
      exact Nat.le_refl _
    · rcases List.mem_cons.1 hx with hx | hx
      · rw [hx, ByteArray.size_extract]; omega
      · have := split_sizes sep k _ x hx
        rw [ByteArray.size_extract] at this
        omega
theorem words_sizes (s : ByteArray) (x : ByteArray) (hx : x ∈ words s) : x.size ≤ s.size := split_sizes _ _ _ x hx
theorem words_len (s : ByteArray) : (words s).length = Lib.countB s ⟨#[46]⟩ + 1 := Lib.splitB_all ⟨#[46]⟩ (by decide) 0 _ s rfl
theorem row_strings (w : World) (e : Nat) (l : List ByteArray) (hl : l.length ≤ 9223372036854775807) : Kd.R Kd.string e (w.alloc (.cells (l.map Value.string).toArray e)) w.heap.size (fun _ => True) (.slice (some ⟨w.heap.size, 0, none⟩) l.length l.length) l :=
  Kd.R_of_own (own_lit_of (enc := Value.string) w w.heap.size e l (Nat.le_refl _) hl) (fun _ _ => trivial)
/-! ### The walk -/
def ParsePost (w : World) (r1 : List Int) (r2 : Int) (e : Ending) (w' : World) : Prop := ∃ v0_ : Value, e = .returned (.tuple #[v0_, .int .i64 r2]) ∧ Kd.R (Kd.int .i64) 3 w' w.heap.size (fun _ => True) v0_ r1 ∧ Below w.heap.size w w'
theorem post_nil {w w' : World} {r1 : List Int} {r2 : Int} (h : some (([] : List Int), (8 : Int)) = some (r1, r2)) (hb : Below w.heap.size w w') : ParsePost w r1 r2 (.returned (.tuple #[.slice none 0 0, .int .i64 8])) w' := by
  obtain ⟨rfl, rfl⟩ := Prod.mk.inj (Option.some.inj h)
  exact ⟨_, rfl, Kd.R_nil _ _ _ _ _, hb⟩
theorem parse_cons (x : ByteArray) (r : List ByteArray) (l : List Int) : parseL (x :: r) l = (stepW x l).bind (parseL r) := rfl
theorem split_call (s : ByteArray) (hs : s.size < 4294967281) (w : World) (hG : Glob w) : Calls Tryd.prog 24 #[.string s, .string ⟨#[46]⟩] w fun e w' => ∃ ad : Addr, e = .returned (.slice (some ad) (words s).length (words s).length) ∧ Kd.R Kd.string 9 w' w.heap.size (fun _ => True) (.slice (some ad) (words s).length (words s).length) (words s) ∧ Below w.heap.size w w' := by
  obtain ⟨m, hm⟩ := hG.2.1
  refine (Tryd.strings_Split s ⟨#[46]⟩ m w hs hm (by decide)).mono fun e w' ⟨he, hw⟩ => ⟨⟨w.heap.size, 0, none⟩, ?_, ?_, ?_⟩
  · rw [he, words_len]
  · rw [hw]
    exact row_strings w 9 (words s) (by rw [words_len]; have := Lib.countB_le ⟨#[46]⟩ (by decide) s.size s (Nat.le_refl _); omega)
  · rw [hw]; exact below_alloc (Below.refl _ _) _
set_option maxHeartbeats 8000000 in
set_option maxRecDepth 100000 in
theorem parse_calls (a0 : ByteArray) (r1 : List Int) (r2 : Int) (w : World) (h : parseF a0 = some (r1, r2)) (hG : Glob w) :
    Calls Tryd.prog 12 #[.string a0] w (ParsePost w r1 r2) := by
  unfold parseF at h
  by_cases hs : a0.size < 4294967281
  case neg => rw [if_neg hs] at h; cases h
  rw [if_pos hs] at h
  have hsp := split_call a0 hs w hG
  have hsz : ∀ x ∈ words a0, x.size ≤ 281474976710656 := fun x hx => by have := words_sizes a0 x hx; omega
  have hln : (words a0).length ≤ 4294967281 := by rw [words_len]; have := Lib.countB_le ⟨#[46]⟩ (by decide) a0.size a0 (Nat.le_refl _); omega
  generalize words a0 = ws at hsp hsz hln h
  have HSP := Aside0.mk hsp
  have HSZ := Aside0.mk hsz
  have HG := Aside0.mk hG
  have HR := Aside0.mk h
  have HLN := Aside0.mk hln
  clear hsp hsz hG h hs hln
  go_enter Tryd.func12, Tryd.ntmps12
  go_wp2_with (go_at_call 24; (with_reducible refine HSP.out.mono ?_); rintro e w1 ⟨ad, rfl, hc, hb⟩; have HC := Aside0.mk hc; have HB := Aside0.mk hb; clear hc hb)
  go_loopg [4, 13] (ws.length + 1) (fun gk v4 v13 w' => ∃ (l : List Int) (j : Int), v13 = .int .i64 j ∧ Aside0 (0 ≤ j ∧ j.toNat + gk = ws.length + 1 ∧ l.length ≤ 100) ∧ Aside0 (parseR (parseL (ws.drop j.toNat) l) = some (r1, r2)) ∧ Aside0 (Kd.R (Kd.int .i64) 3 w' w.heap.size (fun _ => True) v4 l) ∧ Aside0 (Below w.heap.size w w') ∧ Aside0 (Kd.R Kd.string 9 w' w.heap.size (fun k => True ∧ some k ≠ (v4 : Value).ownBlock) (.slice (some ad) ws.length ws.length) ws))
  case atStart => exact ⟨[], 0, rfl, ⟨by simp⟩, HR, ⟨Kd.R_nil _ _ _ _ _⟩, HB, ⟨Kd.R_mono HC.out (fun _ _ => ⟨trivial, by simp [Value.ownBlock]⟩)⟩⟩
  case round =>
    clear HR HB HC
    obtain ⟨l, j, rfl, HJ, HP, HO, HB, HC⟩ := hrel
    obtain ⟨j0, jg, hll⟩ := HJ.out
    clear HJ
    obtain ⟨Ao, co, e4⟩ := Kd.R_slice HO.out
    subst e4
    by_cases hlt : j < (ws.length : Int)
    · have hjn : j.toNat < ws.length := by omega
      obtain ⟨ad', e', hx⟩ := Kd.at_string (Kd.R_reads' HC.out).2.2 j j0 hlt
      cases e'
      have hp := HP.out
      rw [List.drop_eq_getElem_cons hjn, parse_cons] at hp
      have hrd : rdOf ByteArray.empty ws j = ws[j.toNat] := by simp [rdOf, List.getD_eq_getElem?_getD, List.getElem?_eq_getElem hjn]
      have hxs := HSZ.out _ (List.getElem_mem hjn)
      rw [hrd] at hx
      generalize ws[j.toNat] = x at hp hx hxs
      by_cases hok : ∃ v, Lib.atoiAll x.data.toList = .ok v
      · obtain ⟨v, ha⟩ := hok
        have hv := Lib.atoiAll_bounds ha
        have HA := Aside0.mk (fun W => atoi_ok x hxs v ha W)
        have hI := fun W (hW : Glob W) => itoa_calls v ⟨(Lib.itoa v).toArray⟩ W (by unfold itoaF; rw [if_pos hv]) hW
        obtain ⟨y, hyd⟩ : ∃ y : ByteArray, y = ⟨(Lib.itoa v).toArray⟩ := ⟨_, rfl⟩
        rw [← hyd] at hI
        unfold stepW at hp
        rw [ha] at hp
        dsimp only at hp
        rw [← hyd] at hp
        have HI := Aside0.mk hI
        clear hI hyd ha hrd HSZ
        by_cases hy : y = x
        · rw [if_pos hy] at hp
          have hyx : (y.toList == x.toList) = true := by rw [hy]; exact beq_self_eq_true _
          by_cases h40 : (40 : Int) < (l.length : Int)
          · rw [if_pos h40] at hp
            have hd : decide ((40 : Int) < (l.length : Int)) = true := decide_eq_true h40
            have HP := Aside0.mk hp
            clear hy hp h40
            go_wp2_with (first
              | (go_at_call 25; (with_reducible refine (HA.out _).mono ?_); rintro e w3 ⟨rfl, hb⟩; have HB3 := Aside0.mk (below_step HB.out hb); have HO3 := Aside0.mk (Kd.R_below HO.out hb); have HC3 := Aside0.mk (Kd.R_below HC.out hb); clear hb)
              | (go_at_call 26; (with_reducible refine (HI.out _ (HG.out.on HB3.out)).mono ?_); rintro e w4 ⟨rfl, hb⟩; have HB4 := Aside0.mk (below_step HB3.out hb); have HO4 := Aside0.mk (Kd.R_below HO3.out hb); have HC4 := Aside0.mk (Kd.R_below HC3.out hb); clear hb))
            go_ret2
            exact post_nil HP.out HB4.out
          · rw [if_neg h40] at hp
            have hd : decide ((40 : Int) < (l.length : Int)) = false := decide_eq_false h40
            have HP := Aside0.mk (show parseR (parseL (ws.drop (j.toNat + 1)) (l ++ [v])) = some (r1, r2) from hp)
            have hl40 : l.length ≤ 40 := by omega
            clear hy hp h40
            go_wp2_with (first
              | (go_at_call 25; (with_reducible refine (HA.out _).mono ?_); rintro e w3 ⟨rfl, hb⟩; have HB3 := Aside0.mk (below_step HB.out hb); have HO3 := Aside0.mk (Kd.R_below HO.out hb); have HC3 := Aside0.mk (Kd.R_below HC.out hb); clear hb)
              | (go_at_call 26; (with_reducible refine (HI.out _ (HG.out.on HB3.out)).mono ?_); rintro e w4 ⟨rfl, hb⟩; have HB4 := Aside0.mk (below_step HB3.out hb); have HO4 := Aside0.mk (Kd.R_below HO3.out hb); have HC4 := Aside0.mk (Kd.R_below HC3.out hb); clear hb)
              | ((with_reducible refine gate_builtin (b := .append) (xs := #[.tmp 35, .tmp 37]) rfl ?_); (try (refine gate_guard (by rfl) ?_; dsimp only)); at_builtin; refine Kd.R_append (Kd.int .i64) (w0 := w) w.heap.size rfl (.tmp 35) (.tmp 37) 25 3 (.int .i64 0) 8 rfl Tryd.underlying25 info3 rfl (by decide) (by omega) (.slice Ao l.length co) l v [.int .i64 v] (fun _ => True) (fun _ => False) rfl rfl (rfl) (fun _ hk => hk.elim) (fun _ _ => trivial) HO4.out HB4.out HB4.out.size (by omega) ?_; intro v5 w5 ho hb hg hat; have HO5 := Aside0.mk ho; have HB5 := Aside0.mk hb; have HC5 := Aside0.mk (Kd.R_after HC4.out hg hat); clear ho hb hg hat))
            obtain ⟨k1, rfl⟩ : ∃ m, gk = m + 1 := ⟨gk - 1, by omega⟩
            go_roundg k1
            case measure => omega
            case rel =>
              have hln := HLN.out
              have ew : wrap64 (j + 1) = j + 1 := by unfold wrap64; omega
              have et : (j + 1).toNat = j.toNat + 1 := by omega
              refine ⟨l ++ [v], j + 1, by rw [ew], ⟨by omega, by omega, by rw [List.length_append, List.length_singleton]; omega⟩, ⟨by rw [et]; exact HP.out⟩, HO5, HB5, HC5⟩
        · rw [if_neg hy] at hp
          have hyx : (y.toList == x.toList) = false := by
            rw [beq_eq_false_iff_ne]
            intro e
            rw [Lib.toList_data, Lib.toList_data] at e
            exact hy (ByteArray.ext (Array.toList_inj.1 e))
          have HP := Aside0.mk hp
          clear hy hp
          go_wp2_with (first
            | (go_at_call 25; (with_reducible refine (HA.out _).mono ?_); rintro e w3 ⟨rfl, hb⟩; have HB3 := Aside0.mk (below_step HB.out hb); have HO3 := Aside0.mk (Kd.R_below HO.out hb); have HC3 := Aside0.mk (Kd.R_below HC.out hb); clear hb)
            | (go_at_call 26; (with_reducible refine (HI.out _ (HG.out.on HB3.out)).mono ?_); rintro e w4 ⟨rfl, hb⟩; have HB4 := Aside0.mk (below_step HB3.out hb); have HO4 := Aside0.mk (Kd.R_below HO3.out hb); have HC4 := Aside0.mk (Kd.R_below HC3.out hb); clear hb))
          go_ret2
          exact post_nil HP.out HB4.out
      · have hno : ∀ v, Lib.atoiAll x.data.toList ≠ .ok v := fun v hv => hok ⟨v, hv⟩
        obtain ⟨t, hA⟩ := atoi_no x hxs hno wr (HG.out.on HB.out)
        rw [step_no hno] at hp
        have HP := Aside0.mk hp
        have HA := Aside0.mk hA
        clear hA hp hno hok hrd HSZ
        go_wp2_with (first
          | (go_at_call 25; (with_reducible refine HA.out.mono ?_); rintro e w3 ⟨⟨n, N, rfl⟩, hb⟩; have HB3 := Aside0.mk (below_step HB.out hb); clear hb))
        go_ret2
        exact post_nil HP.out HB3.out
    · have hp := HP.out
      rw [List.drop_eq_nil_of_le (by omega)] at hp
      have hp' : (oid_Check.f l).bind (fun e => if e = 0 then some (l, 0) else some ([], e)) = some (r1, r2) := hp
      obtain ⟨c, hc, hp2⟩ := Option.bind_eq_some_iff.1 hp'
      have hdl : decide (j < (ws.length : Int)) = false := decide_eq_false hlt
      have HCk := Aside0.mk (oid_Check.calls Ao co l c wr (Kd.R_reads' HO.out).2.2 (Kd.R_reads' HO.out).2.1 hc)
      by_cases c0 : c = 0
      · subst c0
        rw [if_pos rfl] at hp2
        obtain ⟨e1, e2⟩ := Prod.mk.inj (Option.some.inj hp2)
        subst e1 e2
        clear hp hp' hc hlt
        go_wp2_with (go_at_call 7; (with_reducible refine HCk.out.mono ?_); rintro e w' ⟨rfl, ⟨nd, rfl⟩⟩)
        go_ret2
        exact ⟨_, rfl, Kd.R_drewN HO.out _, pw_below_drewN HB.out _⟩
      · rw [if_neg c0] at hp2
        obtain ⟨e1, e2⟩ := Prod.mk.inj (Option.some.inj hp2)
        subst e1 e2
        have c01 : (c == 0) = false := by simpa using c0
        have c02 : (c != 0) = true := by simpa using c0
        clear hp hp' hc hlt c0
        go_wp2_with (go_at_call 7; (with_reducible refine HCk.out.mono ?_); rintro e w' ⟨rfl, ⟨nd, rfl⟩⟩)
        go_ret2
        exact ⟨_, rfl, Kd.R_nil _ _ _ _ _, pw_below_drewN HB.out _⟩
end Go.Proofs.YtdnclldebkpkfaaDoor.Oid
