/- For the law SetsSort: a row of rows to which another row of rows is appended, told as what it reads. -/
import Derived.Test.YtmhkemgbienfiaaSE0
namespace Go.Proofs.Ytmhkemgbienfiaa.AP
open Go.RowKit Go.Proofs.YtmhkemgbienfiaaW.PrintWords Go.Proofs.YtmhkemgbienfiaaW.PrintLast Go.Proofs.YtmhkemgbienfiaaW.PrintMore
set_option linter.unusedVariables false
set_option linter.unusedSimpArgs false
/-- What a row of rows reads, whoever owns what it leads to. -/
def T (w : World) (v : Value) (xs : List (List Int)) : Prop := ∃ A c, v = .slice A xs.length c ∧ xs.length ≤ c ∧ (Kd.slice 5 (Kd.int .u8)).C w A xs.length xs
theorem T_below {w w1 : World} {v : Value} {xs : List (List Int)} (h : T w v xs) (hb : Below w.heap.size w w1) : T w1 v xs := by
  obtain ⟨A, c, e, hc, hr⟩ := h
  exact ⟨A, c, e, hc, Kd.C_below hr hb⟩
theorem T_alloc {w : World} {v : Value} {xs : List (List Int)} (h : T w v xs) (o : Obj) : T (w.alloc o) v xs := T_below h (below_alloc (Below.refl _ _) o)
theorem T_drew {w : World} {v : Value} {xs : List (List Int)} (h : T w v xs) : T w.drew v xs := T_below h (below_drew (Below.refl _ _))
theorem T_drewN {w : World} {v : Value} {xs : List (List Int)} (h : T w v xs) (m : Nat) : T (w.drewN m) v xs := T_below h (pw_below_drewN (Below.refl _ _) m)
theorem T_slice {w : World} {v : Value} {xs : List (List Int)} (h : T w v xs) : ∃ A c, v = .slice A xs.length c := by
  obtain ⟨A, c, e, _⟩ := h
  exact ⟨A, c, e⟩
theorem T_reads' {w : World} {A : Option Addr} {n c : Nat} {xs : List (List Int)} (h : T w (.slice A n c) xs) : n = xs.length ∧ n ≤ c ∧ (Kd.slice 5 (Kd.int .u8)).C w A xs.length xs := by
  obtain ⟨A', c', e, hc, hr⟩ := h
  injection e with h1 h2 h3
  subst h1 h2 h3
  exact ⟨rfl, hc, hr⟩
section
variable {P : Program} {o : Oper} {ops : Array Oper} {a : Act} {Q : Exit → Act → World → Prop}
theorem app_step {Kc : Act → World → Prop} {w0 W : World} (hw : Region.wanted o (yielded ops a.tmps) = true) (s x : Operand)
    (ho : o.op = .call { callee := .builtin .append, args := #[s, x], argTypes := #[22, 22] })
    (ht : P.underlying 22 = some (.slice 23)) {z : Value} (hinfo : (P.info? 23).map (fun i => (i.zero, i.size, i.bytes)) = some (some z, 1, 24)) (hz : z.cells.size = 1)
    (v : Value) (xs ys : List (List Int)) (A : Option Addr) (m c : Nat) (hs : a.eval s = v) (hx : a.eval x = .slice A m c) {ok : Nat → Prop}
    (HS : Kd.R (Kd.slice 5 (Kd.int .u8)) 23 W w0.heap.size ok v xs) (HC : (Kd.slice 5 (Kd.int .u8)).C w0 A m ys)
    (HB : Below w0.heap.size w0 W) (hl : (xs.length + m) * 24 ≤ 140737488355328)
    (h : ∀ v1 w1, T w1 v1 (xs ++ ys) → Below w0.heap.size w0 w1 → W.grownBy w1 v.ownBlock → Kc (a.put o.dst v1) w1) :
    if Region.wanted o (yielded ops a.tmps) = true then Oper.wp P o a W Kc Q else Kc (a.put o.dst undef) W := by
  obtain ⟨hok, inner, hown, hr⟩ := HS
  have hraw := Kd.reps_raw hr (fun x c hM => ⟨Kd.K_len _ (Kd.K_of_M _ hM), Kd.K_one _ (Kd.K_of_M _ hM)⟩)
  have HR : Kd.R (Kd.raw 1) 23 W w0.heap.size (fun _ => True) v (Kd.chunks 1 xs.length inner) := ⟨fun _ _ => trivial, inner, by rw [Kd.chunks_length]; exact hown, hraw⟩
  obtain ⟨news, hn1, hn2, hn3⟩ := Kd.reads_raw (ReadsRow.imp_ HC HB (fun _ _ hp => hp)) (fun x c hK => ⟨Kd.K_len _ hK, Kd.K_one _ hK⟩)
  refine Kd.R_append_rows_step (Kd.raw 1) (w0 := w0) w0.heap.size hw s x 22 23 z 24 ho ht hinfo hz (by decide) (by decide) v (Kd.chunks 1 xs.length inner) news A m c (fun _ => True) (fun _ => False) hs hx HR hn2 (fun _ _ h => h) (fun _ h => h.elim) (fun _ _ => trivial) HB HB.size (by rw [Kd.chunks_length]; exact hl) ?_
  intro v1 w1 hR1 hb1 hg hat
  refine h v1 w1 ?_ hb1 hg
  have hK1 : Kept W w1 (fun k => some k = v.ownBlock) := Kept.of_grown hg (Kept.refl _ _) (fun k e => .inl e.symm)
  obtain ⟨A1, c1, e1, hl1, hC1⟩ := Kd.R_reads hR1
  have hlen : (Kd.chunks 1 xs.length inner ++ news).length = (xs ++ ys).length := by rw [List.length_append, List.length_append, Kd.chunks_length, hn1]
  refine ⟨A1, c1, by rw [e1, hlen], by omega, rfl, by have := hC1.2.1; omega, fun hp => ?_⟩
  obtain ⟨ad, e2, hcell⟩ := hC1.2.2 (by omega)
  refine ⟨ad, e2, fun j p hj => ?_⟩
  have hjl : j < (xs ++ ys).length := (List.getElem?_eq_some_iff.1 hj).1
  obtain ⟨c2, hc2l, hK2, hcells⟩ := hcell j _ (List.getElem?_eq_getElem (show j < (Kd.chunks 1 xs.length inner ++ news).length by omega))
  obtain ⟨rfl, hk1, hk2⟩ := hK2
  refine ⟨_, hc2l, ?_, hcells⟩
  by_cases hxl : j < xs.length
  · rw [List.getElem?_append_left hxl] at hj
    have hM := hr.2 j p hj
    have he : (Kd.chunks 1 xs.length inner ++ news)[j]? = some ((inner.drop (j * 1)).take 1) := by
      rw [List.getElem?_append_left (by rw [Kd.chunks_length]; exact hxl), Kd.chunks_at hxl]
    rw [Option.some.inj ((List.getElem?_eq_getElem (show j < (Kd.chunks 1 xs.length inner ++ news).length by omega)).symm.trans he)]
    exact Kd.K_of_M _ (Kd.M_kept hM hK1 (fun k hk => hk.2))
  · rw [List.getElem?_append_right (by omega)] at hj
    have hnl : j - xs.length < news.length := by rw [List.length_append] at hjl; omega
    have he : (Kd.chunks 1 xs.length inner ++ news)[j]? = some news[j - xs.length] := by
      rw [List.getElem?_append_right (by rw [Kd.chunks_length]; omega), Kd.chunks_length, List.getElem?_eq_getElem hnl]
    rw [Option.some.inj ((List.getElem?_eq_getElem (show j < (Kd.chunks 1 xs.length inner ++ news).length by omega)).symm.trans he)]
    exact Kd.K_below _ hb1 (hn3 (j - xs.length) p _ hj (List.getElem?_eq_getElem hnl))
end
end Go.Proofs.Ytmhkemgbienfiaa.AP
