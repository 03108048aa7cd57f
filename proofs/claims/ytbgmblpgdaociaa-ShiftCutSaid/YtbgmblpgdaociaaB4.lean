/- Contracts of single, is, designates, escapes, one and of Tokens. -/
import Derived.Test.YtbgmblpgdaociaaB3
namespace Go.Proofs.Ytbgmblpgdaociaa.Base
open Go.RowKit Go.Proofs.YtbgmblpgdaociaaW.PrintWords Go.Proofs.YtbgmblpgdaociaaW.PrintLast Go.Proofs.YtbgmblpgdaociaaW.PrintMore
set_option linter.unusedVariables false
set_option linter.unusedSimpArgs false
set_option linter.unnecessarySimpa false

/-! ### single, is, designates -/
theorem postN_next {w0 : World} {R : Nat} {l : List Int} {s : Rd} (hg : Good l s) {d er : Int} {s2 : Rd} (hN : nextP l s = (d, er, s2)) : ∀ W, IsR w0 W R l s → Calls Try.prog 16 #[.pointer (some ⟨R, 0, none⟩)] W (PostN w0 R l d er s2) := fun W hW => by
  have := next_calls w0 W R l s hW hg
  rw [hN] at this
  exact this
theorem next_zero {l : List Int} {s : Rd} (h : Good l s) {d er : Int} {s2 : Rd} (hN : nextP l s = (d, er, s2)) (h0 : er = 0) : (s2.out.length : Int) + 1 ≤ s2.i := by
  have ho := h.o
  unfold nextP at hN
  by_cases q : s.i ≥ l.length
  · rw [if_pos q] at hN
    simp only [Prod.mk.injEq] at hN
    omega
  · rw [if_neg q] at hN
    simp only [Prod.mk.injEq] at hN
    obtain ⟨_, _, rfl⟩ := hN
    simp; omega

def singleP (l : List Int) (s : Rd) (g : Int) : Int × Rd :=
  if (nextP l s).2.1 ≠ 0 then ((nextP l s).2.1, (nextP l s).2.2) else placeP l (nextP l s).2.2 g (nextP l s).1
def isP (l : List Int) (s : Rd) (want : Int) : Int × Rd :=
  if (nextP l s).2.1 = 0 then (if (nextP l s).1 ≠ want then (11, (nextP l s).2.2) else (0, (nextP l s).2.2)) else ((nextP l s).2.1, (nextP l s).2.2)
def byFinalP (c : Int) (wide : Bool) : Int × Bool :=
  if wide = true then (if c = 66 then (87, true) else (0, false))
  else if c = 117 then (102, true) else if c = 66 then (6, true) else if c = 70 then (126, true) else if c = 76 then (144, true) else if c = 72 then (138, true) else if c = 118 then (103, true) else (0, false)
theorem byFinal_all : ∀ c ∈ (List.range 256), ∀ wide : Bool, csets_ByFinal.f 10 (c : Int) wide = some ((byFinalP c wide).1, (byFinalP c wide).2) := by decide +kernel
theorem byFinal_eq (c : Int) (h0 : 0 ≤ c) (h1 : c ≤ 255) (wide : Bool) : csets_ByFinal.f 10 c wide = some ((byFinalP c wide).1, (byFinalP c wide).2) := by
  obtain ⟨m, rfl⟩ := Int.eq_ofNat_of_zero_le h0
  exact byFinal_all m (by simp; omega) wide
def designatesP (l : List Int) (s : Rd) (g : Int) (wide : Bool) : Int × Rd :=
  if (nextP l s).2.1 ≠ 0 then ((nextP l s).2.1, (nextP l s).2.2)
  else if (byFinalP (nextP l s).1 wide).2 = false then (12, (nextP l s).2.2)
  else (0, (nextP l s).2.2.put g (byFinalP (nextP l s).1 wide).1)

set_option maxHeartbeats 4000000 in
set_option maxRecDepth 100000 in
theorem single_calls (w0 w : World) (R : Nat) (l : List Int) (s : Rd) (k : Nat) (hk : k < 4) (h : IsR w0 w R l s) (hg : Good l s) :
    Calls Try.prog 18 #[.pointer (some ⟨R, 0, none⟩), .int .i64 k] w (PostE w0 R l (singleP l s k).1 (singleP l s k).2) := by
  have H := Aside0.mk h
  unfold singleP
  have hgn := next_good hg
  obtain ⟨q, hN⟩ : ∃ q, nextP l s = q := ⟨_, rfl⟩
  obtain ⟨d, er, s2⟩ := q
  have HN := Aside0.mk (postN_next (w0 := w0) (R := R) hg hN)
  have hz := next_zero hg hN
  rw [hN] at hgn ⊢
  dsimp only at hgn ⊢
  clear h
  by_cases he : er = 0
  · have hp := fun W (hW : IsR w0 W R l s2) => place_calls w0 W R l s2 k d hk hW hgn (hz he)
    have HP := Aside0.mk hp
    subst he
    rw [if_neg (fun q => q rfl)]
    have t3 : ((0 : Int) != 0) = false := rfl
    clear hp hz hgn hg hN
    generalize placeP l s2 k d = pp at HP ⊢
    obtain ⟨pe, ps⟩ := pp
    go_enter Try.func18, Try.ntmps18
    go_wp2_with (first
      | (go_at_call 16; (with_reducible refine (HN.out _ H.out).mono ?_); rintro e w3 ⟨rfl, h3⟩; have H3 := Aside0.mk h3; clear h3)
      | (go_at_call 20; (with_reducible refine (HP.out _ H3.out).mono ?_); rintro e w4 ⟨rfl, h4⟩; have H4 := Aside0.mk h4; clear h4))
    go_ret
    exact ⟨rfl, H4.out⟩
  · rw [if_pos he]
    have t3 : (er != 0) = true := by simpa using he
    clear he hz hgn hg hN
    go_enter Try.func18, Try.ntmps18
    go_wp2_with (go_at_call 16; (with_reducible refine (HN.out _ H.out).mono ?_); rintro e w3 ⟨rfl, h3⟩; have H3 := Aside0.mk h3; clear h3)
    go_ret
    exact ⟨rfl, H3.out⟩

set_option maxHeartbeats 4000000 in
set_option maxRecDepth 100000 in
theorem is_calls (w0 w : World) (R : Nat) (l : List Int) (s : Rd) (want : Int) (h : IsR w0 w R l s) (hg : Good l s) :
    Calls Try.prog 22 #[.pointer (some ⟨R, 0, none⟩), .int .i64 want] w (PostE w0 R l (isP l s want).1 (isP l s want).2) := by
  have H := Aside0.mk h
  unfold isP
  obtain ⟨q, hN⟩ : ∃ q, nextP l s = q := ⟨_, rfl⟩
  obtain ⟨d, er, s2⟩ := q
  have HN := Aside0.mk (postN_next (w0 := w0) (R := R) hg hN)
  rw [hN]
  dsimp only
  clear h hg hN
  by_cases he : er = 0
  · subst he
    rw [if_pos rfl]
    by_cases hw : d = want
    · rw [if_neg (fun q => q hw)]
      have t4 : (d != want) = false := by simp [hw]
      have HW := Aside0.mk hw
      clear hw
      go_enter Try.func22, Try.ntmps22
      go_wp2_with (go_at_call 16; (with_reducible refine (HN.out _ H.out).mono ?_); rintro e w3 ⟨rfl, h3⟩; have H3 := Aside0.mk h3; clear h3)
      go_ret
      exact ⟨rfl, H3.out⟩
    · rw [if_pos hw]
      have t4 : (d != want) = true := by simpa using hw
      clear hw
      go_enter Try.func22, Try.ntmps22
      go_wp2_with (go_at_call 16; (with_reducible refine (HN.out _ H.out).mono ?_); rintro e w3 ⟨rfl, h3⟩; have H3 := Aside0.mk h3; clear h3)
      go_ret
      exact ⟨rfl, H3.out⟩
  · rw [if_neg he]
    have t3 : (er == 0) = false := by simpa using he
    clear he
    go_enter Try.func22, Try.ntmps22
    go_wp2_with (go_at_call 16; (with_reducible refine (HN.out _ H.out).mono ?_); rintro e w3 ⟨rfl, h3⟩; have H3 := Aside0.mk h3; clear h3)
    go_ret
    exact ⟨rfl, H3.out⟩

set_option maxHeartbeats 4000000 in
set_option maxRecDepth 100000 in
theorem designates_calls (w0 w : World) (R : Nat) (l : List Int) (s : Rd) (k : Nat) (wide : Bool) (hk : k < 4) (h : IsR w0 w R l s) (hg : Good l s) :
    Calls Try.prog 23 #[.pointer (some ⟨R, 0, none⟩), .int .i64 k, .bool wide] w (PostE w0 R l (designatesP l s k wide).1 (designatesP l s k wide).2) := by
  have H := Aside0.mk h
  unfold designatesP
  obtain ⟨q, hN⟩ : ∃ q, nextP l s = q := ⟨_, rfl⟩
  obtain ⟨d, er, s2⟩ := q
  have HN := Aside0.mk (postN_next (w0 := w0) (R := R) hg hN)
  have hb := next_byte hg
  rw [hN] at hb ⊢
  dsimp only at hb ⊢
  have hF := fun W => csets_ByFinal.calls 10 d wide (byFinalP d wide).1 (byFinalP d wide).2 W (byFinal_eq d hb.1 hb.2 wide)
  obtain ⟨bp, hbp⟩ : ∃ q, byFinalP d wide = q := ⟨_, rfl⟩
  rw [hbp] at hF ⊢
  obtain ⟨st, ok⟩ := bp
  dsimp only at hF ⊢
  clear hbp
  have HF := Aside0.mk hF
  have i1 : (k : Int) < 4 := by omega
  clear h hg hN hF hb
  by_cases he : er = 0
  · subst he
    rw [if_neg (fun q => q rfl)]
    have t3 : ((0 : Int) != 0) = false := rfl
    cases ok with
    | false =>
      rw [if_pos rfl]
      go_enter Try.func23, Try.ntmps23
      go_wp2_with (first
        | (go_at_call 16; (with_reducible refine (HN.out _ H.out).mono ?_); rintro e w3 ⟨rfl, h3⟩; have H3 := Aside0.mk h3; clear h3)
        | (go_at_call 25; (with_reducible refine (HF.out _).mono ?_); rintro e w4 ⟨rfl, hb⟩; have H4 := Aside0.mk (isR_below H3.out hb); clear hb))
      go_ret
      exact ⟨rfl, H4.out⟩
    | true =>
      rw [if_neg (fun q => by cases q)]
      go_enter Try.func23, Try.ntmps23
      go_upto_region 7 with (first
        | (go_at_call 16; (with_reducible refine (HN.out _ H.out).mono ?_); rintro e w3 ⟨rfl, h3⟩; have H3 := Aside0.mk h3; clear h3)
        | (go_at_call 25; (with_reducible refine (HF.out _).mono ?_); rintro e w4 ⟨rfl, hb⟩; have H4 := Aside0.mk (isR_below H3.out hb); clear hb))
      obtain ⟨x0, f0⟩ := cell_g H4.out k hk
      go_wp2
      go_ret
      refine ⟨rfl, isR_set H4.out ?_ (fun a v => ?_)⟩
      · unfold Rd.put
        split
        · rfl
        · split
          · rfl
          · split
            · rfl
            · rfl
      · match k, hk with
        | 0, _ => rfl
        | 1, _ => rfl
        | 2, _ => rfl
        | 3, _ => rfl
  · rw [if_pos he]
    have t3 : (er != 0) = true := by simpa using he
    clear he
    go_enter Try.func23, Try.ntmps23
    go_wp2_with (go_at_call 16; (with_reducible refine (HN.out _ H.out).mono ?_); rintro e w3 ⟨rfl, h3⟩; have H3 := Aside0.mk h3; clear h3)
    go_ret
    exact ⟨rfl, H3.out⟩

/-! ### escapes, one, Tokens -/
def escapesP (l : List Int) (s : Rd) : Int × Rd :=
  if (nextP l s).2.1 ≠ 0 then ((nextP l s).2.1, (nextP l s).2.2)
  else if (nextP l s).1 = 33 then isP l (nextP l s).2.2 69
  else if (nextP l s).1 = 34 then isP l (nextP l s).2.2 72
  else if (nextP l s).1 = 110 ∨ (nextP l s).1 = 111 then (0, { (nextP l s).2.2 with left := (nextP l s).1 - 108 })
  else if (nextP l s).1 = 124 ∨ (nextP l s).1 = 125 ∨ (nextP l s).1 = 126 then (0, { (nextP l s).2.2 with right := 127 - (nextP l s).1 })
  else if (nextP l s).1 = 36 then
    (if (nextP l (nextP l s).2.2).2.1 ≠ 0 then ((nextP l (nextP l s).2.2).2.1, (nextP l (nextP l s).2.2).2.2)
     else if (nextP l (nextP l s).2.2).1 < 40 ∨ (nextP l (nextP l s).2.2).1 ≥ 44 then (11, (nextP l (nextP l s).2.2).2.2)
     else designatesP l (nextP l (nextP l s).2.2).2.2 ((nextP l (nextP l s).2.2).1 - 40) true)
  else if (nextP l s).1 < 40 ∨ (nextP l s).1 ≥ 44 then (11, (nextP l s).2.2)
  else designatesP l (nextP l s).2.2 ((nextP l s).1 - 40) false

/-- A step: good, and not backward. -/
def Fine (l : List Int) (s s' : Rd) : Prop := Good l s' ∧ s.i ≤ s'.i
theorem fine_next {l : List Int} {s : Rd} (h : Good l s) : Fine l s (nextP l s).2.2 := ⟨next_good h, by unfold nextP; split <;> simp; omega⟩
theorem fine_trans {l : List Int} {s s' s'' : Rd} (h : Fine l s s') (h2 : Fine l s' s'') : Fine l s s'' := ⟨h2.1, Int.le_trans h.2 h2.2⟩
theorem fine_is {l : List Int} {s : Rd} (h : Good l s) (want : Int) : Fine l s (isP l s want).2 := by
  have := fine_next h
  unfold isP
  split
  · split
    · exact this
    · exact this
  · exact this
theorem good_put {l : List Int} {s : Rd} (h : Good l s) (g v : Int) : Good l (s.put g v) ∧ (s.put g v).i = s.i := by
  obtain ⟨a, b, c, d, e, f, g'⟩ := h
  unfold Rd.put
  split
  · exact ⟨⟨a, b, c, d, e, f, g'⟩, rfl⟩
  · split
    · exact ⟨⟨a, b, c, d, e, f, g'⟩, rfl⟩
    · split
      · exact ⟨⟨a, b, c, d, e, f, g'⟩, rfl⟩
      · exact ⟨⟨a, b, c, d, e, f, g'⟩, rfl⟩
theorem fine_designates {l : List Int} {s : Rd} (h : Good l s) (g : Int) (wide : Bool) : Fine l s (designatesP l s g wide).2 := by
  have := fine_next h
  unfold designatesP
  split
  · exact this
  · split
    · exact this
    · obtain ⟨a, b⟩ := good_put this.1 g (byFinalP (nextP l s).1 wide).1
      exact ⟨a, by rw [b]; exact this.2⟩
theorem place_i {l : List Int} {s : Rd} (h : Good l s) (g c : Int) : s.i ≤ (placeP l s g c).2.i := by
  have hn := (fine_next h).2
  unfold placeP
  split
  · exact Int.le_refl _
  · split
    · exact Int.le_refl _
    · split
      · split
        · exact hn
        · split
          · exact hn
          · split
            · exact hn
            · exact hn
      · exact Int.le_refl _
theorem fine_single {l : List Int} {s : Rd} (h : Good l s) (g : Int) : Fine l s (singleP l s g).2 := by
  have hn := fine_next h
  unfold singleP
  split
  · exact hn
  · rename_i q
    have q' : (nextP l s).2.1 = 0 := by simpa using q
    have := next_zero h (d := (nextP l s).1) (er := (nextP l s).2.1) (s2 := (nextP l s).2.2) rfl q'
    exact fine_trans hn ⟨place_good hn.1 this, place_i hn.1 _ _⟩
theorem fine_escapes {l : List Int} {s : Rd} (h : Good l s) : Fine l s (escapesP l s).2 := by
  have hn := fine_next h
  have hb := next_byte h
  have hn2 := fine_next hn.1
  unfold escapesP
  split
  · exact hn
  · split
    · exact fine_trans hn (fine_is hn.1 _)
    · split
      · exact fine_trans hn (fine_is hn.1 _)
      · split
        · obtain ⟨⟨a, b, c, d, e, f, g⟩, i⟩ := hn
          exact ⟨⟨a, b, c, d, e, by simp; omega, g⟩, i⟩
        · split
          · obtain ⟨⟨a, b, c, d, e, f, g⟩, i⟩ := hn
            exact ⟨⟨a, b, c, d, e, f, by simp; omega⟩, i⟩
          · split
            · split
              · exact fine_trans hn hn2
              · split
                · exact fine_trans hn hn2
                · exact fine_trans hn (fine_trans hn2 (fine_designates hn2.1 _ _))
            · split
              · exact hn
              · exact fine_trans hn (fine_designates hn.1 _ _)

def oneP (l : List Int) (s : Rd) : Int × Rd :=
  if (nextP l s).1 = 32 ∨ (nextP l s).1 = 8 ∨ (nextP l s).1 = 10 ∨ (nextP l s).1 = 12 ∨ (nextP l s).1 = 13 then (0, (nextP l s).2.2.tell 0 (nextP l s).1)
  else if (nextP l s).1 = 14 ∨ (nextP l s).1 = 15 then (0, { (nextP l s).2.2 with left := 15 - (nextP l s).1 })
  else if (nextP l s).1 = 25 then singleP l (nextP l s).2.2 2
  else if (nextP l s).1 = 29 then singleP l (nextP l s).2.2 3
  else if (nextP l s).1 = 27 then escapesP l (nextP l s).2.2
  else if (nextP l s).1 ≥ 128 then placeP l (nextP l s).2.2 (nextP l s).2.2.right (nextP l s).1
  else placeP l (nextP l s).2.2 (nextP l s).2.2.left (nextP l s).1
theorem fine_one {l : List Int} {s : Rd} (h : Good l s) (hi : s.i < l.length) : Good l (oneP l s).2 ∧ s.i + 1 ≤ (oneP l s).2.i := by
  have e : nextP l s = (rd l s.i, 0, { s with i := s.i + 1 }) := by unfold nextP; rw [if_neg (by omega)]
  have hn := next_good h
  have hb := next_byte h
  have hz := next_zero h (d := (nextP l s).1) (er := (nextP l s).2.1) (s2 := (nextP l s).2.2) rfl (by rw [e])
  have hs : (nextP l s).2.2.i = s.i + 1 := by rw [e]
  have key : ∀ s', Fine l (nextP l s).2.2 s' → Good l s' ∧ s.i + 1 ≤ s'.i := fun s' q => ⟨q.1, by have := q.2; omega⟩
  have fp : ∀ g c, Fine l (nextP l s).2.2 (placeP l (nextP l s).2.2 g c).2 := fun g c => ⟨place_good hn hz, place_i hn g c⟩
  unfold oneP
  split
  · obtain ⟨a, b, c, d, e, f, g⟩ := hn
    exact ⟨⟨a, b, by simp [Rd.tell] at *; omega, d, e, f, g⟩, by simp [Rd.tell]; omega⟩
  · split
    · obtain ⟨a, b, c, d, e, f, g⟩ := hn
      exact ⟨⟨a, b, c, d, e, by simp; omega, g⟩, by simp; omega⟩
    · split
      · exact key _ (fine_single hn _)
      · split
        · exact key _ (fine_single hn _)
        · split
          · exact key _ (fine_escapes hn)
          · split
            · exact key _ (fp _ _)
            · exact key _ (fp _ _)

def tokL (l : List Int) : Nat → Rd → Option (List (Int × Int) × Int × Int)
  | 0, _ => none
  | f + 1, s => if s.i < (l.length : Int) then (if (oneP l s).1 ≠ 0 then some ([], s.i, (oneP l s).1) else tokL l f (oneP l s).2) else some (s.out, 0, 0)
def startR : Rd := ⟨0, 102, 0, 103, 0, 0, 2, []⟩
def tokF (l : List Int) : Option (List (Int × Int) × Int × Int) := if l.length ≤ 1000000 ∧ (l.all fun x => decide (0 ≤ x ∧ x ≤ 255)) = true then tokL l (l.length + 1) startR else none

set_option maxHeartbeats 8000000 in
set_option maxRecDepth 100000 in
theorem escapes_calls (w0 w : World) (R : Nat) (l : List Int) (s : Rd) (h : IsR w0 w R l s) (hg : Good l s) :
    Calls Try.prog 19 #[.pointer (some ⟨R, 0, none⟩)] w (PostE w0 R l (escapesP l s).1 (escapesP l s).2) := by
  have H := Aside0.mk h
  unfold escapesP
  have hgn := next_good hg
  have hb := next_byte hg
  obtain ⟨q, hN⟩ : ∃ q, nextP l s = q := ⟨_, rfl⟩
  obtain ⟨c, er, s1⟩ := q
  have HN := Aside0.mk (postN_next (w0 := w0) (R := R) hg hN)
  rw [hN] at hgn hb ⊢
  dsimp only at hgn hb ⊢
  obtain ⟨b0, b1⟩ := hb
  have hI := fun W want (hW : IsR w0 W R l s1) => is_calls w0 W R l s1 want hW hgn
  have HI := Aside0.mk hI
  have hD := fun W (k : Nat) wide hk (hW : IsR w0 W R l s1) => designates_calls w0 W R l s1 k wide hk hW hgn
  have HD := Aside0.mk hD
  have hgn2 := next_good hgn
  have hb2 := next_byte hgn
  have HG := Aside0.mk hgn
  clear h hN hg hI hD
  by_cases he : er = 0
  case neg =>
    rw [if_pos he]
    have t3 : (er != 0) = true := by simpa using he
    clear he hgn hgn2 hb2
    go_enter Try.func19, Try.ntmps19
    go_wp2_with (go_at_call 16; (with_reducible refine (HN.out _ H.out).mono ?_); rintro e w3 ⟨rfl, h3⟩; have H3 := Aside0.mk h3; clear h3)
    go_ret
    exact ⟨rfl, H3.out⟩
  subst he
  rw [if_neg (fun q => q rfl)]
  have t3 : ((0 : Int) != 0) = false := rfl
  by_cases c33 : c = 33
  · rw [if_pos c33]
    subst c33
    clear hgn hgn2 hb2
    go_enter Try.func19, Try.ntmps19
    go_wp2_with (first
      | (go_at_call 16; (with_reducible refine (HN.out _ H.out).mono ?_); rintro e w3 ⟨rfl, h3⟩; have H3 := Aside0.mk h3; clear h3)
      | (go_at_call 22; (with_reducible refine (HI.out _ 69 H3.out).mono ?_); rintro e w4 ⟨rfl, h4⟩; have H4 := Aside0.mk h4; clear h4))
    go_ret
    exact ⟨rfl, H4.out⟩
  rw [if_neg c33]
  by_cases c34 : c = 34
  · rw [if_pos c34]
    subst c34
    clear hgn hgn2 hb2
    go_enter Try.func19, Try.ntmps19
    go_wp2_with (first
      | (go_at_call 16; (with_reducible refine (HN.out _ H.out).mono ?_); rintro e w3 ⟨rfl, h3⟩; have H3 := Aside0.mk h3; clear h3)
      | (go_at_call 22; (with_reducible refine (HI.out _ 72 H3.out).mono ?_); rintro e w4 ⟨rfl, h4⟩; have H4 := Aside0.mk h4; clear h4))
    go_ret
    exact ⟨rfl, H4.out⟩
  rw [if_neg c34]
  by_cases cL : c = 110 ∨ c = 111
  · rw [if_pos cL]
    clear hgn2 hb2
    rcases cL with rfl | rfl
    all_goals
      clear c33 c34 hgn
      go_enter Try.func19, Try.ntmps19
      go_upto_region 11 with (go_at_call 16; (with_reducible refine (HN.out _ H.out).mono ?_); rintro e w3 ⟨rfl, h3⟩; have H3 := Aside0.mk h3; clear h3)
      obtain ⟨A, cc, v, b1', b2', b3', b4', b5'⟩ := H3.out
      have x0 : ∃ u, w3.cell? ⟨R, 6, none⟩ = some u := ⟨_, (blk_cell b1' 6).trans rfl⟩
      have f0 := blk_frozen b1' 6
      obtain ⟨u, x0⟩ := x0
      clear b1' b2' b3' b4' b5'
      go_wp2
      go_ret
      exact ⟨rfl, isR_set H3.out rfl (fun _ _ => rfl)⟩
  rw [if_neg cL]
  by_cases cR : c = 124 ∨ c = 125 ∨ c = 126
  · rw [if_pos cR]
    clear hgn2 hb2
    rcases cR with rfl | rfl | rfl
    all_goals
      clear c33 c34 hgn
      go_enter Try.func19, Try.ntmps19
      go_upto_region 16 with (go_at_call 16; (with_reducible refine (HN.out _ H.out).mono ?_); rintro e w3 ⟨rfl, h3⟩; have H3 := Aside0.mk h3; clear h3)
      obtain ⟨A, cc, v, b1', b2', b3', b4', b5'⟩ := H3.out
      have x0 : ∃ u, w3.cell? ⟨R, 7, none⟩ = some u := ⟨_, (blk_cell b1' 7).trans rfl⟩
      have f0 := blk_frozen b1' 7
      obtain ⟨u, x0⟩ := x0
      clear b1' b2' b3' b4' b5'
      go_wp2
      go_ret
      exact ⟨rfl, isR_set H3.out rfl (fun _ _ => rfl)⟩
  rw [if_neg cR]
  by_cases c36 : c = 36
  · rw [if_pos c36]
    subst c36
    obtain ⟨q2, hN2⟩ : ∃ q, nextP l s1 = q := ⟨_, rfl⟩
    obtain ⟨c2, er2, s2⟩ := q2
    have HN2 := Aside0.mk (postN_next (w0 := w0) (R := R) hgn hN2)
    rw [hN2] at hgn2 hb2 ⊢
    dsimp only at hgn2 hb2 ⊢
    obtain ⟨d0, d1⟩ := hb2
    clear hN2 hgn c33 c34 cL cR
    by_cases he2 : er2 = 0
    case neg =>
      rw [if_pos he2]
      have t4 : (er2 != 0) = true := by simpa using he2
      clear he2 hgn2
      go_enter Try.func19, Try.ntmps19
      go_wp2_with (first
        | (go_at_call 16; (with_reducible refine (HN.out _ H.out).mono ?_); rintro e w3 ⟨rfl, h3⟩; have H3 := Aside0.mk h3; clear h3)
        | (go_at_call 16; (with_reducible refine (HN2.out _ H3.out).mono ?_); rintro e w4 ⟨rfl, h4⟩; have H4 := Aside0.mk h4; clear h4))
      go_ret
      exact ⟨rfl, H4.out⟩
    subst he2
    rw [if_neg (fun q => q rfl)]
    by_cases cb : c2 < 40 ∨ c2 ≥ 44
    · rw [if_pos cb]
      clear hgn2
      by_cases cb1 : c2 < 40
      · have z1 : decide (c2 < 40) = true := decide_eq_true cb1
        clear cb
        go_enter Try.func19, Try.ntmps19
        go_wp2_with (first
          | (go_at_call 16; (with_reducible refine (HN.out _ H.out).mono ?_); rintro e w3 ⟨rfl, h3⟩; have H3 := Aside0.mk h3; clear h3)
          | (go_at_call 16; (with_reducible refine (HN2.out _ H3.out).mono ?_); rintro e w4 ⟨rfl, h4⟩; have H4 := Aside0.mk h4; clear h4))
        go_ret
        exact ⟨rfl, H4.out⟩
      · have cb2 : 44 ≤ c2 := by omega
        have z1 : decide (c2 < 40) = false := decide_eq_false cb1
        have z2 : decide (c2 ≥ 44) = true := decide_eq_true cb2
        clear cb
        go_enter Try.func19, Try.ntmps19
        go_wp2_with (first
          | (go_at_call 16; (with_reducible refine (HN.out _ H.out).mono ?_); rintro e w3 ⟨rfl, h3⟩; have H3 := Aside0.mk h3; clear h3)
          | (go_at_call 16; (with_reducible refine (HN2.out _ H3.out).mono ?_); rintro e w4 ⟨rfl, h4⟩; have H4 := Aside0.mk h4; clear h4))
        go_ret
        exact ⟨rfl, H4.out⟩
    · rw [if_neg cb]
      obtain ⟨k, hk⟩ : ∃ k : Nat, c2 - 40 = (k : Int) := ⟨(c2 - 40).toNat, by omega⟩
      have hk4 : k < 4 := by omega
      have cb1 : ¬ c2 < 40 := by omega
      have cb2 : ¬ 44 ≤ c2 := by omega
      have z1 : decide (c2 < 40) = false := decide_eq_false cb1
      have z2 : decide (c2 ≥ 44) = false := decide_eq_false cb2
      have hD2 := fun W (hW : IsR w0 W R l s2) => designates_calls w0 W R l s2 k true hk4 hW hgn2
      rw [hk]
      rw [← hk] at hD2
      have HK := Aside0.mk hk
      have HD2 := Aside0.mk hD2
      clear cb hgn2 hD2 hk
      go_enter Try.func19, Try.ntmps19
      go_wp2_with (first
        | (go_at_call 16; (with_reducible refine (HN.out _ H.out).mono ?_); rintro e w3 ⟨rfl, h3⟩; have H3 := Aside0.mk h3; clear h3)
        | (go_at_call 16; (with_reducible refine (HN2.out _ H3.out).mono ?_); rintro e w4 ⟨rfl, h4⟩; have H4 := Aside0.mk h4; clear h4)
        | (go_at_call 23; (with_reducible refine (HD2.out _ H4.out).mono ?_); rintro e w5 ⟨rfl, h5⟩; have H5 := Aside0.mk h5; clear h5))
      go_ret
      exact ⟨by rw [HK.out]; rfl, by have := H5.out; rw [HK.out] at this; exact this⟩
  rw [if_neg c36]
  have e36 : (c == 36) = false := by simp; omega
  have e33 : (c == 33) = false := by simp; omega
  have e34 : (c == 34) = false := by simp; omega
  have e110 : (c == 110) = false := by simp; omega
  have e111 : (c == 111) = false := by simp; omega
  have e124 : (c == 124) = false := by simp; omega
  have e125 : (c == 125) = false := by simp; omega
  have e126 : (c == 126) = false := by simp; omega
  by_cases cb : c < 40 ∨ c ≥ 44
  · rw [if_pos cb]
    clear hgn hgn2 hb2
    by_cases cb1 : c < 40
    · have z1 : decide (c < 40) = true := decide_eq_true cb1
      clear cb c33 c34 cL cR c36
      go_enter Try.func19, Try.ntmps19
      go_wp2_with (go_at_call 16; (with_reducible refine (HN.out _ H.out).mono ?_); rintro e w3 ⟨rfl, h3⟩; have H3 := Aside0.mk h3; clear h3)
      go_ret
      exact ⟨rfl, H3.out⟩
    · have cb2 : 44 ≤ c := by omega
      have z1 : decide (c < 40) = false := decide_eq_false cb1
      have z2 : decide (c ≥ 44) = true := decide_eq_true cb2
      clear cb c33 c34 cL cR c36
      go_enter Try.func19, Try.ntmps19
      go_wp2_with (go_at_call 16; (with_reducible refine (HN.out _ H.out).mono ?_); rintro e w3 ⟨rfl, h3⟩; have H3 := Aside0.mk h3; clear h3)
      go_ret
      exact ⟨rfl, H3.out⟩
  · rw [if_neg cb]
    obtain ⟨k, hk⟩ : ∃ k : Nat, c - 40 = (k : Int) := ⟨(c - 40).toNat, by omega⟩
    have hk4 : k < 4 := by omega
    have cb1 : ¬ c < 40 := by omega
    have cb2 : ¬ 44 ≤ c := by omega
    have z1 : decide (c < 40) = false := decide_eq_false cb1
    have z2 : decide (c ≥ 44) = false := decide_eq_false cb2
    have hD2 := fun W (hW : IsR w0 W R l s1) => designates_calls w0 W R l s1 k false hk4 hW hgn
    rw [hk]
    rw [← hk] at hD2
    have HK := Aside0.mk hk
    have HD2 := Aside0.mk hD2
    clear cb hgn hgn2 hb2 hD2 hk c33 c34 cL cR c36
    go_enter Try.func19, Try.ntmps19
    go_wp2_with (first
      | (go_at_call 16; (with_reducible refine (HN.out _ H.out).mono ?_); rintro e w3 ⟨rfl, h3⟩; have H3 := Aside0.mk h3; clear h3)
      | (go_at_call 23; (with_reducible refine (HD2.out _ H3.out).mono ?_); rintro e w5 ⟨rfl, h5⟩; have H5 := Aside0.mk h5; clear h5))
    go_ret
    exact ⟨by rw [HK.out]; rfl, by have := H5.out; rw [HK.out] at this; exact this⟩
end Go.Proofs.Ytbgmblpgdaociaa.Base
