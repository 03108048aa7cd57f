/- The walk of slices.symMergeCmpFunc. -/
import Derived.Test.YtmhkemgbienfiaaSt3
import Derived.Deep.DeepCutAuto
import Derived.Deep.CutBlock
set_option linter.unusedVariables false
set_option linter.unusedSimpArgs false
set_option linter.unusedSectionVars false
namespace Go.Proofs.Ytmhkemgbienfiaa.Sets
open Go.Shelf Go.RowKit Go.Lib Go.Sort Go.Proofs

variable {α : Type} [Inhabited α]

/-- Where the two parts change over, over the search's bounds. -/
theorem symMerge_eq {α : Type} [Inhabited α] (lt : α → α → Bool) (f : Nat) (d : Array α) (a m b mid lo hi s e : Nat) (d1 d2 : Array α) (c1 : ¬ m - a = 1) (c2 : ¬ b - m = 1) (hmid : (a + b) / 2 = mid) (hlo : lo = if m > mid then mid + m - b else a) (hhi : hi = if m > mid then mid else m)
    (hs : bsM lt (mid + m - 1) d (hi - lo + 1) lo hi = s) (he : e = mid + m - s) (h1 : d1 = if s < m ∧ m < e then rot m (e - s) (m - s) (e - m) d else d) (h2 : d2 = if a < s ∧ s < mid then symMerge lt f d1 a s mid else d1) :
    symMerge lt (f + 1) d a m b = if mid < e ∧ e < b then symMerge lt f d2 mid e b else d2 := by
  rw [symMerge, if_neg c1, if_neg c2, hmid]
  have hx : (if m > mid then bsM lt (mid + m - 1) d (mid - (mid + m - b) + 1) (mid + m - b) mid else bsM lt (mid + m - 1) d (m - a + 1) a m) = s := by
    rw [← hs, hlo, hhi]
    by_cases g : m > mid
    · simp only [if_pos g]
    · simp only [if_neg g]
  simp only [hx, ← he, ← h1, ← h2]

set_option maxHeartbeats 16000000 in
set_option maxRecDepth 1000000 in
theorem symMerge_3 (enc : α → Value) (cf : α → α → Int) (g : Nat) (cb : Array Value) (blk off cap a m b f : Nat) (d0 d : Array α) (w0 w : World)
    (eg : ∀ args w, (callFunc g args).run Try.prog w = .ok (.enter g args) w) (hcmp : CmpLays1 Try.prog g cb enc cf blk off d0.size w0) (R : Row1 enc w0 blk off d0) (hs : d0.size = d.size) (S : SW enc w0 blk off d w)
    (ham : a < m) (hmb : m < b) (c1 : ¬ m - a = 1) (c2 : ¬ b - m = 1) (hb : b ≤ d.size) (hsz : d.size < 4611686018427387904)
    (IH : ∀ (a m b : Nat) (d' : Array α) (w : World), d0.size = d'.size → SW enc w0 blk off d' w → a < m → m < b → b ≤ d'.size → b - a ≤ f → Calls Try.prog 31 #[.slice (some ⟨blk, off, none⟩) d'.size cap, .int .i64 a, .int .i64 m, .int .i64 b, .func (.func g) #[] cb] w fun e w' => e = .returned (.tuple #[]) ∧ SW enc w0 blk off (symMerge (ltOf cf) f d' a m b) w')
    (hf : b - a ≤ f + 1) :
    Calls Try.prog 31 #[.slice (some ⟨blk, off, none⟩) d.size cap, .int .i64 a, .int .i64 m, .int .i64 b, .func (.func g) #[] cb] w fun e w' => e = .returned (.tuple #[]) ∧ SW enc w0 blk off (symMerge (ltOf cf) (f + 1) d a m b) w' := by
  have mixed : Try.prog.follows .mixedOrders = true := by kernel_rfl
  have hu26 := Try.underlying26
  have hcl0 := R.hO.cells
  simp only [Value.cells] at hcl0
  have hst := R.hO.store Try.prog
  have S0 : Aside (SW enc w0 blk off d w) := S
  have HC : Aside _ := hcmp
  have HI : Aside _ := IH
  clear S hcmp IH
  obtain ⟨mid, hmid⟩ : ∃ q, (a + b) / 2 = q := ⟨_, rfl⟩
  have em := Lib.hid (show ((a : Int) + (b : Int)) / 2 = (mid : Int) by omega)
  have HM := Lib.hid hmid
  have m1 : a < mid := by omega
  have m2 : mid < b := by omega
  have m3 : 2 * mid ≤ a + b := by omega
  have m4 : a + b ≤ 2 * mid + 1 := by omega
  clear hmid
  obtain ⟨lo, hlo⟩ : ∃ q, q = if m > mid then mid + m - b else a := ⟨_, rfl⟩
  obtain ⟨hi, hhi⟩ : ∃ q, q = if m > mid then mid else m := ⟨_, rfl⟩
  have l1 : a ≤ lo ∧ lo ≤ hi ∧ hi ≤ mid ∧ hi ≤ m ∧ mid + m ≤ b + lo := by
    rw [hlo, hhi]
    by_cases q : m > mid
    · rw [if_pos q, if_pos q]; omega
    · rw [if_neg q, if_neg q]; omega
  obtain ⟨l1, l2, l3, l4, l5⟩ := l1
  have HLo := Lib.hid hlo
  have HHi := Lib.hid hhi
  clear hlo hhi
  obtain ⟨nn, hnn⟩ : ∃ q, q = mid + m := ⟨_, rfl⟩
  have en := Lib.hid (show (mid : Int) + (m : Int) = (nn : Int) by omega)
  have HN := Lib.hid hnn
  have n1 : nn ≥ 1 := by omega
  have n2 : nn ≤ b + lo := by omega
  have n3 : nn < d.size + d.size := by omega
  clear hnn
  obtain ⟨p, hp⟩ : ∃ q, q + 1 = nn := ⟨nn - 1, by omega⟩
  have ep := Lib.hid (show (nn : Int) - 1 = (p : Int) by omega)
  have HP := Lib.hid hp
  have p1 : p < d.size + d.size := by omega
  clear hp
  have k1 : ((m : Int) - (a : Int) == 1) = false := by simp; omega
  have k2 : ((b : Int) - (m : Int) == 1) = false := by simp; omega
  have C1 := Lib.hid c1
  have C2 := Lib.hid c2
  clear c1 c2
  go_enter Try.func31, Try.ntmps31
  go_upto_region 25 with (fail)
  rw [em.out]
  go_upto_region 26 with (fail)
  rw [en.out]
  go_upto_region 27 with (fail)
  go_upto_if 140 with (fail)
  go_cut [20, 21] (fun s20 s21 wx => s20 = .int .i64 lo ∧ s21 = .int .i64 hi ∧ wx = w)
  case first =>
    as_aux_lemma =>
      clear S0
      by_cases q : m > mid
      · have hq : (mid : Int) < (m : Int) := by omega
        have hq2 : decide ((m : Int) > (mid : Int)) = true := decide_eq_true (by omega)
        have e1 := Lib.hid (show (nn : Int) - (b : Int) = (lo : Int) by have h1 := HLo.out; rw [if_pos q] at h1; have := HN.out; omega)
        have e2 := Lib.hid (show (hi : Int) = (mid : Int) by have h1 := HHi.out; rw [if_pos q] at h1; omega)
        clear q
        go_wp2_with fail
        go_meet
        exact ⟨by rw [e1.out], by rw [e2.out], rfl⟩
      · have hq : ¬ (mid : Int) < (m : Int) := by omega
        have hq2 : decide ((m : Int) > (mid : Int)) = false := decide_eq_false (by omega)
        have e1 := Lib.hid (show (a : Int) = (lo : Int) by have h1 := HLo.out; rw [if_neg q] at h1; omega)
        have e2 := Lib.hid (show (hi : Int) = (m : Int) by have h1 := HHi.out; rw [if_neg q] at h1; omega)
        clear q
        go_wp2_with fail
        go_meet
        exact ⟨by rw [e1.out], by rw [e2.out], rfl⟩
  case rest =>
    obtain ⟨rfl, rfl, rfl⟩ := hcut
    go_upto_block 8 with (fail)
    rw [ep.out]
    obtain ⟨s, hsd⟩ : ∃ q, bsM (ltOf cf) (mid + m - 1) d (hi - lo + 1) lo hi = q := ⟨_, rfl⟩
    have hmp : mid + m - 1 = p := by have h1 := HP.out; have h2 := HN.out; omega
    have HS0 := Lib.hid hsd
    rw [hmp] at hsd
    have HS := Lib.hid hsd
    clear hsd hmp
    go_cut [20] (fun s20 wx => s20 = .int .i64 s ∧ lo ≤ s ∧ s ≤ hi ∧ Aside (SW enc w0 blk off d wx))
    case first =>
      as_aux_lemma =>
        go_wp2_with fail
        go_loopg [20, 21] (hi - lo + 1) (fun gk vi vj wr => ∃ (i j : Nat), vi = .int .i64 i ∧ vj = .int .i64 j ∧ lo ≤ i ∧ i ≤ j ∧ j ≤ hi ∧ j - i < gk ∧ Aside (SW enc w0 blk off d wr) ∧ Hid (bsM (ltOf cf) p d gk i j = bsM (ltOf cf) p d (hi - lo + 1) lo hi))
        case atStart => exact ⟨lo, hi, rfl, rfl, by omega, by omega, by omega, by omega, S0, rfl⟩
        case round =>
          clear S0
          obtain ⟨i, j, rfl, rfl, hmi, hij, hjb, hg, S1, HO⟩ := hrel
          obtain ⟨gk1, rfl⟩ : ∃ q, gk = q + 1 := ⟨gk - 1, by omega⟩
          have hro := HO.out
          rw [bsM] at hro
          clear HO
          by_cases hlt : i < j
          · have hltz : (i : Int) < (j : Int) := by omega
            rw [if_pos hlt] at hro
            obtain ⟨h, hh⟩ : ∃ h, h = (i + j) / 2 := ⟨_, rfl⟩
            rw [← hh] at hro
            have eh := Lib.hid (show ((i : Int) + (j : Int)) / 2 = (h : Int) by omega)
            have h1 : i ≤ h := by omega
            have h2 : h < j := by omega
            clear hh
            have hpp : p + 1 = mid + m := by have h1 := HP.out; have h2 := HN.out; omega
            have r0 : (0 : Int) ≤ (p : Int) - (h : Int) := by omega
            have r2 : (p : Int) - (h : Int) < (d.size : Int) := by omega
            have r3 : IntKind.i64.wrap ((p : Int) - (h : Int)) = (p : Int) - (h : Int) := by rw [IntKind.wrap_i64]; omega
            obtain ⟨x, hx⟩ : ∃ x, x = d[p - h]! := ⟨_, rfl⟩
            obtain ⟨y, hy⟩ : ∃ x, x = d[h]! := ⟨_, rfl⟩
            have l1' := S1.out.cl R (by omega) (p - h) (by omega)
            have l2' := S1.out.cl R (by omega) h (by omega)
            have hc := S1.out.cmp HC.out (by omega) x y
            rw [← hx] at l1' hro
            rw [← hy] at l2' hro
            have r5 : h ≤ p := by omega
            have r6 : (h : Int) ≤ (p : Int) := by omega
            clear hx hy hpp
            have b1 : (h : Int) < (d.size : Int) := by omega
            cases hlv : (ltOf cf) x y with
            | true =>
              rw [hlv, if_pos rfl] at hro
              have HR := Lib.hid hro
              clear hro
              have hv : cf x y < 0 := of_decide_eq_true hlv
              have hd : decide (cf x y < 0) = true := decide_eq_true hv
              clear hlv
              go_wp2_with fail
              rw [eh.out]
              go_quiet_grown (first | (go_at_fn g; refine Calls.grown_of (hc _ _)))
              have S2 : Aside (SW enc w0 blk off d (grow (wr.drewN nq) osq)) := S1.out.grown nq osq
              clear l1' l2' hc S1
              generalize grow (wr.drewN nq) osq = w2 at S2 ⊢
              clear nq osq
              go_wp2
              go_roundg gk1
              case measure => omega
              case rel => exact ⟨i, h, rfl, rfl, by omega, by omega, by omega, by omega, S2, (show Hid _ from HR.out)⟩
            | false =>
              rw [hlv, if_neg (by decide)] at hro
              have HR := Lib.hid hro
              clear hro
              have hv : ¬ cf x y < 0 := of_decide_eq_false hlv
              have hd : decide (cf x y < 0) = false := decide_eq_false hv
              clear hlv
              go_wp2_with fail
              rw [eh.out]
              go_quiet_grown (first | (go_at_fn g; refine Calls.grown_of (hc _ _)))
              have S2 : Aside (SW enc w0 blk off d (grow (wr.drewN nq) osq)) := S1.out.grown nq osq
              clear l1' l2' hc S1
              generalize grow (wr.drewN nq) osq = w2 at S2 ⊢
              clear nq osq
              go_wp2
              go_roundg gk1
              case measure => omega
              case rel => exact ⟨h + 1, j, by go_num, rfl, by omega, by omega, by omega, by omega, S2, (show Hid _ from HR.out)⟩
          · have hltz : ¬ (i : Int) < (j : Int) := by omega
            rw [if_neg hlt] at hro
            have his : i = s := by rw [hro]; exact HS.out
            clear hro HS HS0
            subst his
            go_wp2_with fail
            go_meet
            exact ⟨rfl, hmi, by omega, S1⟩
    case rest =>
      clear S0
      rename World => w3
      obtain ⟨rfl, s1, s2, S1⟩ := hcut
      obtain ⟨e, he⟩ : ∃ q, q = nn - s := ⟨_, rfl⟩
      have ee := Lib.hid (show (nn : Int) - (s : Int) = (e : Int) by have := HN.out; omega)
      have e1 : m ≤ e := by have := HN.out; omega
      have e2 : e ≤ b := by omega
      have e3 : s + e = nn := by have := HN.out; omega
      have E3 := Lib.hid e3
      clear he e3
      go_upto_region 39 with (fail)
      rw [ee.out]
      obtain ⟨d1, hd1⟩ : ∃ q, q = (if s < m ∧ m < e then rot m (e - s) (m - s) (e - m) d else d) := ⟨_, rfl⟩
      have D1 := Lib.hid hd1
      have z1 : d1.size = d.size := by
        rw [hd1]
        split
        · exact size_rot _ _ _ _ _
        · rfl
      clear hd1
      go_cut [185] (fun s185 wx => s185 = .bool (decide (s < m ∧ m < e)) ∧ wx = w3)
      case first =>
        as_aux_lemma =>
          by_cases x1 : s < m
          · have x1z : (s : Int) < (m : Int) := by omega
            have x1d : decide ((s : Int) < (m : Int)) = true := decide_eq_true x1z
            by_cases x2 : m < e
            · have x2z : (m : Int) < (e : Int) := by omega
              go_wp2_with fail
              go_meet
              exact ⟨by simp [x1, x2], rfl⟩
            · have x2z : ¬ (m : Int) < (e : Int) := by omega
              go_wp2_with fail
              go_meet
              exact ⟨by simp [x1, x2], rfl⟩
          · have x1z : ¬ (s : Int) < (m : Int) := by omega
            have x1d : decide ((s : Int) < (m : Int)) = false := decide_eq_false x1z
            go_wp2_with fail
            go_meet
            exact ⟨by simp [x1], rfl⟩
      case rest =>
        rename World => w4
        obtain ⟨rfl, rfl⟩ := hcut
        go_upto_if 185 with (fail)
        go_cut [185] (fun s185 wx => Aside (SW enc w0 blk off d1 wx))
        case first =>
          as_aux_lemma =>
            by_cases x : s < m ∧ m < e
            · have hc := rotate_s enc blk off cap s m e d0 d w0 w4 (.func (.func g) #[] cb) R hs S1.out x.1 x.2 (by omega) hsz
              have hd1 := D1.out
              rw [if_pos x] at hd1
              rw [← hd1] at hc
              have xd : decide (s < m ∧ m < e) = true := decide_eq_true x
              rw [xd]
              clear hd1 xd x
              go_wp2_with (go_at_call 32; (with_reducible refine hc.mono ?_); rintro e w5 ⟨rfl, S2⟩; have S3 : Aside _ := S2; clear S2)
              go_meet
              exact S3
            · have hd1 := D1.out
              rw [if_neg x] at hd1
              subst hd1
              have xd : decide (s < m ∧ m < e) = false := decide_eq_false x
              rw [xd]
              clear xd x
              go_wp2_with fail
              go_meet
              exact S1
        case rest =>
          rename World => w5
          have S2 : Aside (SW enc w0 blk off d1 w5) := hcut
          clear hcut S1
          obtain ⟨d2, hd2⟩ : ∃ q, q = (if a < s ∧ s < mid then symMerge (ltOf cf) f d1 a s mid else d1) := ⟨_, rfl⟩
          have D2 := Lib.hid hd2
          have z2 : d2.size = d.size := by
            rw [hd2]
            split
            · rw [size_symMerge]; exact z1
            · exact z1
          clear hd2
          go_upto_region 41 with (fail)
          go_cut [199] (fun s199 wx => s199 = .bool (decide (a < s ∧ s < mid)) ∧ wx = w5)
          case first =>
            as_aux_lemma =>
              by_cases x1 : a < s
              · have x1z : (a : Int) < (s : Int) := by omega
                have x1d : decide ((a : Int) < (s : Int)) = true := decide_eq_true x1z
                by_cases x2 : s < mid
                · have x2z : (s : Int) < (mid : Int) := by omega
                  go_wp2_with fail
                  go_meet
                  exact ⟨by simp [x1, x2], rfl⟩
                · have x2z : ¬ (s : Int) < (mid : Int) := by omega
                  go_wp2_with fail
                  go_meet
                  exact ⟨by simp [x1, x2], rfl⟩
              · have x1z : ¬ (a : Int) < (s : Int) := by omega
                have x1d : decide ((a : Int) < (s : Int)) = false := decide_eq_false x1z
                go_wp2_with fail
                go_meet
                exact ⟨by simp [x1], rfl⟩
          case rest =>
            rename World => w6
            obtain ⟨rfl, rfl⟩ := hcut
            go_upto_if 199 with (fail)
            go_cut [199] (fun s199 wx => Aside (SW enc w0 blk off d2 wx))
            case first =>
              as_aux_lemma =>
                by_cases x : a < s ∧ s < mid
                · have hc := HI.out a s mid d1 w6 (by omega) S2.out x.1 x.2 (by omega) (by omega)
                  have hd2 := D2.out
                  rw [if_pos x] at hd2
                  rw [← hd2, z1] at hc
                  have xd : decide (a < s ∧ s < mid) = true := decide_eq_true x
                  rw [xd]
                  clear hd2 xd x
                  go_wp2_with (go_at_call 31; (with_reducible refine hc.mono ?_); rintro e w7 ⟨rfl, S3⟩; have S4 : Aside _ := S3; clear S3)
                  go_meet
                  exact S4
                · have hd2 := D2.out
                  rw [if_neg x] at hd2
                  have S4 : Aside (SW enc w0 blk off d2 w6) := by rw [hd2]; exact S2
                  have xd : decide (a < s ∧ s < mid) = false := decide_eq_false x
                  rw [xd]
                  clear hd2 xd x
                  go_wp2_with fail
                  go_meet
                  exact S4
            case rest =>
              rename World => w7
              have S3 : Aside (SW enc w0 blk off d2 w7) := hcut
              clear hcut S2
              obtain ⟨d3, hd3⟩ : ∃ q, q = (if mid < e ∧ e < b then symMerge (ltOf cf) f d2 mid e b else d2) := ⟨_, rfl⟩
              have D3 := Lib.hid hd3
              clear hd3
              have FIN : Hid (symMerge (ltOf cf) (f + 1) d a m b = d3) := by
                have h1 := HN.out; have h2 := E3.out
                have := symMerge_eq (ltOf cf) f d a m b mid lo hi s e d1 d2 C1.out C2.out HM.out HLo.out HHi.out HS0.out (by omega) D1.out D2.out
                rw [this]; exact D3.out.symm
              go_upto_region 43 with (fail)
              go_cut [213] (fun s213 wx => s213 = .bool (decide (mid < e ∧ e < b)) ∧ wx = w7)
              case first =>
                as_aux_lemma =>
                  by_cases x1 : mid < e
                  · have x1z : (mid : Int) < (e : Int) := by omega
                    have x1d : decide ((mid : Int) < (e : Int)) = true := decide_eq_true x1z
                    by_cases x2 : e < b
                    · have x2z : (e : Int) < (b : Int) := by omega
                      go_wp2_with fail
                      go_meet
                      exact ⟨by simp [x1, x2], rfl⟩
                    · have x2z : ¬ (e : Int) < (b : Int) := by omega
                      go_wp2_with fail
                      go_meet
                      exact ⟨by simp [x1, x2], rfl⟩
                  · have x1z : ¬ (mid : Int) < (e : Int) := by omega
                    have x1d : decide ((mid : Int) < (e : Int)) = false := decide_eq_false x1z
                    go_wp2_with fail
                    go_meet
                    exact ⟨by simp [x1], rfl⟩
              case rest =>
                rename World => w8
                obtain ⟨rfl, rfl⟩ := hcut
                by_cases x : mid < e ∧ e < b
                · have hc := HI.out mid e b d2 w8 (by omega) S3.out x.1 x.2 (by omega) (by omega)
                  have hd3 := D3.out
                  rw [if_pos x] at hd3
                  rw [← hd3, z2] at hc
                  have xd : decide (mid < e ∧ e < b) = true := decide_eq_true x
                  rw [xd]
                  clear hd3 xd x
                  go_wp2_with (go_at_call 31; (with_reducible refine hc.mono ?_); rintro e w9 ⟨rfl, S4⟩; have S5 : Aside _ := S4; clear S4)
                  go_end0
                  exact ⟨rfl, by rw [FIN.out]; exact S5.out⟩
                · have hd3 := D3.out
                  rw [if_neg x] at hd3
                  have S4 : Aside (SW enc w0 blk off d3 w8) := by rw [hd3]; exact S3
                  have xd : decide (mid < e ∧ e < b) = false := decide_eq_false x
                  rw [xd]
                  clear hd3 xd x
                  go_wp2_with fail
                  go_end0
                  exact ⟨rfl, by rw [FIN.out]; exact S4.out⟩

theorem symMerge_s (enc : α → Value) (cf : α → α → Int) (g : Nat) (cb : Array Value) (blk off cap : Nat) (d0 : Array α) (w0 : World)
    (eg : ∀ args w, (callFunc g args).run Try.prog w = .ok (.enter g args) w) (hcmp : CmpLays1 Try.prog g cb enc cf blk off d0.size w0) (R : Row1 enc w0 blk off d0) (hsz : d0.size < 4611686018427387904) :
    ∀ (f a m b : Nat) (d : Array α) (w : World), d0.size = d.size → SW enc w0 blk off d w → a < m → m < b → b ≤ d.size → b - a ≤ f →
    Calls Try.prog 31 #[.slice (some ⟨blk, off, none⟩) d.size cap, .int .i64 a, .int .i64 m, .int .i64 b, .func (.func g) #[] cb] w fun e w' => e = .returned (.tuple #[]) ∧ SW enc w0 blk off (symMerge (ltOf cf) f d a m b) w'
  | 0, a, m, b, d, w, _, _, h1, h2, _, h3 => by omega
  | f + 1, a, m, b, d, w, hs, S, h1, h2, hb, h3 => by
    by_cases c1 : m - a = 1
    · exact symMerge_1 enc cf g cb blk off cap a m b f d0 d w0 w eg hcmp R hs S (by omega) h2 hb (by omega)
    · by_cases c2 : b - m = 1
      · exact symMerge_2 enc cf g cb blk off cap a m b f d0 d w0 w eg hcmp R hs S (by omega) (by omega) hb (by omega)
      · exact symMerge_3 enc cf g cb blk off cap a m b f d0 d w0 w eg hcmp R hs S h1 h2 c1 c2 hb (by omega) (symMerge_s enc cf g cb blk off cap d0 w0 eg hcmp R hsz f) h3
end Go.Proofs.Ytmhkemgbienfiaa.Sets
