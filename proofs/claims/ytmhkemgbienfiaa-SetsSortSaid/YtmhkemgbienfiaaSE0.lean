/- For the law SetsExact: below two worlds; an element's row, written by a call. -/
import Derived.Test.YtmhkemgbienfiaaB2
namespace Go.Proofs.Ytmhkemgbienfiaa.SE
open Go.RowKit Go.Proofs.YtmhkemgbienfiaaW.PrintWords Go.Proofs.YtmhkemgbienfiaaW.PrintLast Go.Proofs.YtmhkemgbienfiaaW.PrintMore
set_option linter.unusedVariables false
set_option linter.unusedSimpArgs false
theorem name_below {W w1 : World} (h : Below W.heap.size W w1) : ∃ wz, wz = W ∧ Below wz.heap.size wz w1 := ⟨W, rfl, h⟩
def BB (w z W : World) : Prop := Below w.heap.size w W ∧ Below z.heap.size z W
section
variable {w z W w2 : World}
theorem bb_alloc (h : BB w z W) (o : Obj) : BB w z (W.alloc o) := ⟨below_alloc h.1 o, below_alloc h.2 o⟩
theorem bb_drewN (h : BB w z W) (m : Nat) : BB w z (W.drewN m) := ⟨pw_below_drewN h.1 m, pw_below_drewN h.2 m⟩
theorem bb_drew1 (h : BB w z W) : BB w z W.drew := ⟨below_drew1 h.1, below_drew1 h.2⟩
theorem bb_step (h : BB w z W) (k : Below W.heap.size W w2) : BB w z w2 := ⟨below_step h.1 k, below_step h.2 k⟩
theorem bb_size (h : BB w z W) : w.heap.size ≤ W.heap.size := below_size h.1
end
theorem R_own {w : World} {base : Nat} {ok ok' : Nat → Prop} {v : Value} {xs : List Int} (h : Kd.R (Kd.int .u8) 5 w base ok v xs) (h' : ∀ k, v.ownBlock = some k → ok' k) : Kd.R (Kd.int .u8) 5 w base ok' v xs := ⟨h', h.2⟩
theorem over_elem {W : World} {base : Nat} {ok : Nat → Prop} {ad : Addr} {n cap : Nat} {xs : List (List Int)} {i : Int} (h : Kd.S (Kd.slice 5 (Kd.int .u8)) 23 W base ok (.slice (some ad) n cap) xs) (h0 : 0 ≤ i) (h1 : i < n) {v : Value} (hc : W.cell? (ad.add i.toNat) = some v) :
    ∃ oki : Nat → Prop, (∀ k, oki k → ok k) ∧ Kd.R (Kd.int .u8) 5 W base oki v (xs.getD i.toNat []) ∧
      ∀ (w1 : World) (r : List Int) (okr : Nat → Prop), Kept W w1 oki → Kd.R (Kd.int .u8) 5 w1 base okr v r → Kd.S (Kd.slice 5 (Kd.int .u8)) 23 w1 base ok (.slice (some ad) n cap) (xs.set i.toNat r) := by
  obtain ⟨g, rfl⟩ := Kd.R_head (Kd.S_R h)
  obtain ⟨oki, c, hcl, hM, hcc, hoki, hH⟩ := Kd.S_lend h [] i h0 h1
  obtain ⟨ve, rfl, ge⟩ := hM
  have hv := hcc 0 _ rfl
  rw [Nat.add_zero, show ((Kd.slice 5 (Kd.int .u8))).sz = 1 from rfl, Nat.mul_one] at hv
  rw [add_plain, hv] at hc
  obtain rfl := Option.some.inj hc
  exact ⟨oki, fun k hk => (hoki k hk).1, ge, fun w1 r okr hk hr => Kd.H_back (Kd.H_kept hH hk (fun k _ hn hs => hn hs)) (Kd.M_row (R_own hr ge.1)) (fun _ hk => hk)⟩
end Go.Proofs.Ytmhkemgbienfiaa.SE
