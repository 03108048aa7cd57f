-- Written by a program of this session over the translation; checked by Lean alone.
import Derived.Test.YtooemmioomaplaaMTlvExactx0
import Derived.Test.YtooemmioomaplaaMTlvExactx1
import Derived.Test.YtooemmioomaplaaMTlvExactx3
import Derived.Test.YtooemmioomaplaaMTlvExactx4
import Derived.Test.YtooemmioomaplaaMTlvExactx5
import Derived.Test.YtooemmioomaplaaMTlvExactx6
import Derived.Test.YtooemmioomaplaaMTlvExactx7
import Derived.Test.YtooemmioomaplaaMTlvExactx8
namespace Go.Proofs.Ytooemmioomaplaa.MTlvExact
open Go.RowKit Go.Proofs.YtooemmioomaplaaW.PrintWords Go.Proofs.YtooemmioomaplaaW.PrintLast Go.Proofs.YtooemmioomaplaaW.PrintMore
attribute [local go_sem] max2_int min2_int max_two min_two max_three min_three max_four min_four   -- for this text's walks alone
set_option linter.unusedVariables false
set_option linter.unusedSimpArgs false
set_option linter.unnecessarySimpa false

attribute [local go_sem high] eqA23
/-! ### sobriquetlaw01_TlvExact: function 6 -/
mutual
def sobriquetlaw01_TlvExact.j0 : Nat → List Int → List Int → Int → List Int → List Int → Int → Int → List Int → Int → Bool → Int → Int → Bool → Int → Int → Int → Int → Bool → Int → Int → Option (Bool)
  | 0, _, _, _, _, _, _, _, _, _, _, _, _, _, _, _, _, _, _, _, _ => none
  | k + 1, x0, x10, x11, x13, x14, x17, x18, x19, x20, x83, x280000, x280001, x280002, x280003, x280004, x322000, x322001, x322002, x322003, x322004 => if x83 = true then (some false) else (if x18 = 0 then (if 0 ≤ x322004 then (if x322004 ≤ x17 then (if x17 ≤ (x0.length : Int) then ((sobriquetkeep_Bytes.f k x13 ((x0.take (x17 : Int).toNat).drop (x322004 : Int).toNat)).bind fun t328 => (if t328 = true then (if 0 ≤ x17 then ((sobriquetkeep_Bytes.f k x14 (x0.drop (x17 : Int).toNat)).bind fun t330 => (if t330 = true then (sobriquetlaw01_TlvExact.j1 k x0 x10 x11 x19 x20 false x280000 x280001 x280002 x280003 x280004) else (sobriquetlaw01_TlvExact.j1 k x0 x10 x11 x19 x20 true x280000 x280001 x280002 x280003 x280004))) else (none)) else (sobriquetlaw01_TlvExact.j1 k x0 x10 x11 x19 x20 true x280000 x280001 x280002 x280003 x280004))) else (none)) else (none)) else (none)) else (sobriquetlaw01_TlvExact.j1 k x0 x10 x11 x19 x20 (decide ((wrap64 ((x13.length : Int) + (x14.length : Int))) > 0)) x280000 x280001 x280002 x280003 x280004))
def sobriquetlaw01_TlvExact.j1 : Nat → List Int → List Int → Int → List Int → Int → Bool → Int → Int → Bool → Int → Int → Option (Bool)
  | 0, _, _, _, _, _, _, _, _, _, _, _ => none
  | k + 1, x0, x10, x11, x19, x20, x115, x280000, x280001, x280002, x280003, x280004 => if x115 = true then (some false) else ((sobriquetref01_Head.f x280000 x280001 x280002 x280003 x280004).bind fun t331 => (if t331 = true then (if x11 = 0 then ((sobriquetref01_HeadBytes.f k x280000 x280001 x280002 x280003 x280004).bind fun t332 => ((sobriquetkeep_Bytes.f k x10 t332).bind fun t335 => (if t335 = true then (sobriquetlaw01_TlvExact.j2 k x0 x19 x20 x280000 x280001 x280002 x280003 x280004) else (some false)))) else (some false)) else (if x11 = 1 then (if (x10.length : Int) > 0 then (some false) else (sobriquetlaw01_TlvExact.j2 k x0 x19 x20 x280000 x280001 x280002 x280003 x280004)) else (some false))))
def sobriquetlaw01_TlvExact.j2 : Nat → List Int → List Int → Int → Int → Int → Bool → Int → Int → Option (Bool)
  | 0, _, _, _, _, _, _, _, _ => none
  | k + 1, x0, x19, x20, x280000, x280001, x280002, x280003, x280004 => (sobriquetref01_Head.f x280000 x280001 x280002 (x0.length : Int) x280004).bind fun t336 => (if t336 = true then (if x20 = 0 then ((sobriquetref01_Wrap.f k x280000 x280001 x280002 x0).bind fun t338 => ((sobriquetkeep_Bytes.f k x19 t338).bind fun t341 => (if t341 = true then ((sobriquetlaw01_wakes.f k).bind fun t342 => (some t342)) else (some false)))) else (some false)) else (if x20 = 1 then (if (x19.length : Int) = 0 then ((sobriquetlaw01_wakes.f k).bind fun t337 => (some t337)) else (some false)) else (some false)))
end
def sobriquetlaw01_TlvExact.f (k : Nat) (l0 : List Int) (a1_0 : Int) (a1_1 : Int) (a1_2 : Bool) (a1_3 : Int) (a1_4 : Int) : Option (Bool) := if (l0.length : Int) > 700 then (some true) else ((sobriquetkeep_Twin.f l0).bind fun t280 => ((tlv_Read.f k t280).bind fun bt283 => ((sobriquetref01_Read.f k l0).bind fun bt290 => ((tlv_Bytes.f k a1_0 a1_1 a1_2 a1_3 a1_4).bind fun bt297 => ((tlv_One.f k t280).bind fun bt301 => ((sobriquetref01_One.f k l0).bind fun bt314 => ((tlv_Wrap.f k a1_0 a1_1 a1_2 a1_3 a1_4 t280).bind fun bt322 => (if (!(bt283.1 == bt290.1) || (!(bt283.2.1 == bt290.2.1) || (!(bt283.2.2.1 == bt290.2.2.1) || (!(bt283.2.2.2.1 == bt290.2.2.2.1) || (!(bt283.2.2.2.2.1 == bt290.2.2.2.2.1)))))) = true then (sobriquetlaw01_TlvExact.j0 k l0 bt297.1 bt297.2 bt301.2.2.2.2.2.1 bt301.2.2.2.2.2.2.1 bt314.2.2.2.2.2.1 bt314.2.2.2.2.2.2 bt322.1 bt322.2 true a1_0 a1_1 a1_2 a1_3 a1_4 bt314.1 bt314.2.1 bt314.2.2.1 bt314.2.2.2.1 bt314.2.2.2.2.1) else (if bt283.2.2.2.2.2 = bt290.2.2.2.2.2 then (if (!(bt301.1 == bt314.1) || (!(bt301.2.1 == bt314.2.1) || (!(bt301.2.2.1 == bt314.2.2.1) || (!(bt301.2.2.2.1 == bt314.2.2.2.1) || (!(bt301.2.2.2.2.1 == bt314.2.2.2.2.1)))))) = true then (sobriquetlaw01_TlvExact.j0 k l0 bt297.1 bt297.2 bt301.2.2.2.2.2.1 bt301.2.2.2.2.2.2.1 bt314.2.2.2.2.2.1 bt314.2.2.2.2.2.2 bt322.1 bt322.2 true a1_0 a1_1 a1_2 a1_3 a1_4 bt314.1 bt314.2.1 bt314.2.2.1 bt314.2.2.2.1 bt314.2.2.2.2.1) else (if bt301.2.2.2.2.2.2.2 = bt314.2.2.2.2.2.2 then ((sobriquetkeep_Bytes.f k t280 l0).bind fun t326 => (sobriquetlaw01_TlvExact.j0 k l0 bt297.1 bt297.2 bt301.2.2.2.2.2.1 bt301.2.2.2.2.2.2.1 bt314.2.2.2.2.2.1 bt314.2.2.2.2.2.2 bt322.1 bt322.2 (!t326) a1_0 a1_1 a1_2 a1_3 a1_4 bt314.1 bt314.2.1 bt314.2.2.1 bt314.2.2.2.1 bt314.2.2.2.2.1)) else (sobriquetlaw01_TlvExact.j0 k l0 bt297.1 bt297.2 bt301.2.2.2.2.2.1 bt301.2.2.2.2.2.2.1 bt314.2.2.2.2.2.1 bt314.2.2.2.2.2.2 bt322.1 bt322.2 true a1_0 a1_1 a1_2 a1_3 a1_4 bt314.1 bt314.2.1 bt314.2.2.1 bt314.2.2.2.1 bt314.2.2.2.2.1))) else (sobriquetlaw01_TlvExact.j0 k l0 bt297.1 bt297.2 bt301.2.2.2.2.2.1 bt301.2.2.2.2.2.2.1 bt314.2.2.2.2.2.1 bt314.2.2.2.2.2.2 bt322.1 bt322.2 true a1_0 a1_1 a1_2 a1_3 a1_4 bt314.1 bt314.2.1 bt314.2.2.1 bt314.2.2.2.1 bt314.2.2.2.2.1))))))))))
theorem sobriquetlaw01_TlvExact.mono_l : ∀ k, (∀ y0 y1 y2 y3 y4 y5 y6 y7 y8 y9 y10 y11 y12 y13 y14 y15 y16 y17 y18 y19, LeO (sobriquetlaw01_TlvExact.j0 k y0 y1 y2 y3 y4 y5 y6 y7 y8 y9 y10 y11 y12 y13 y14 y15 y16 y17 y18 y19) (sobriquetlaw01_TlvExact.j0 (k + 1) y0 y1 y2 y3 y4 y5 y6 y7 y8 y9 y10 y11 y12 y13 y14 y15 y16 y17 y18 y19)) ∧ (∀ y0 y1 y2 y3 y4 y5 y6 y7 y8 y9 y10, LeO (sobriquetlaw01_TlvExact.j1 k y0 y1 y2 y3 y4 y5 y6 y7 y8 y9 y10) (sobriquetlaw01_TlvExact.j1 (k + 1) y0 y1 y2 y3 y4 y5 y6 y7 y8 y9 y10)) ∧ (∀ y0 y1 y2 y3 y4 y5 y6 y7, LeO (sobriquetlaw01_TlvExact.j2 k y0 y1 y2 y3 y4 y5 y6 y7) (sobriquetlaw01_TlvExact.j2 (k + 1) y0 y1 y2 y3 y4 y5 y6 y7))
  | 0 => ⟨fun _ _ _ _ _ _ _ _ _ _ _ _ _ _ _ _ _ _ _ _ r h => by simp [sobriquetlaw01_TlvExact.j0] at h, fun _ _ _ _ _ _ _ _ _ _ _ r h => by simp [sobriquetlaw01_TlvExact.j1] at h, fun _ _ _ _ _ _ _ _ r h => by simp [sobriquetlaw01_TlvExact.j2] at h⟩
  | k + 1 => by
    obtain ⟨ih0, ih1, ih2⟩ := sobriquetlaw01_TlvExact.mono_l k
    refine ⟨?_, ?_, ?_⟩
    · intro y0 y1 y2 y3 y4 y5 y6 y7 y8 y9 y10 y11 y12 y13 y14 y15 y16 y17 y18 y19
      unfold sobriquetlaw01_TlvExact.j0
      repeat' first
      | (with_reducible exact ih0 _ _ _ _ _ _ _ _ _ _ _ _ _ _ _ _ _ _ _ _)
      | (with_reducible exact ih1 _ _ _ _ _ _ _ _ _ _ _)
      | (with_reducible exact ih2 _ _ _ _ _ _ _ _)
      | (with_reducible exact sobriquetkeep_Bytes.mono _ _ _)
      | (with_reducible exact sobriquetlaw01_wakes.mono _)
      | (with_reducible exact sobriquetref01_HeadBytes.mono _ _ _ _ _ _)
      | (with_reducible exact sobriquetref01_One.mono _ _)
      | (with_reducible exact sobriquetref01_Read.mono _ _)
      | (with_reducible exact sobriquetref01_Wrap.mono _ _ _ _ _)
      | (with_reducible exact tlv_Bytes.mono _ _ _ _ _ _)
      | (with_reducible exact tlv_One.mono _ _)
      | (with_reducible exact tlv_Read.mono _ _)
      | (with_reducible exact tlv_Wrap.mono _ _ _ _ _ _ _)
      | (with_reducible exact LeO.refl _)
      | (with_reducible exact LeO.none _)
      | (with_reducible refine LeO.ite ?_ ?_)
      | (with_reducible refine LeO.bind ?_ (fun _ => ?_))
      | exact ih0 _ _ _ _ _ _ _ _ _ _ _ _ _ _ _ _ _ _ _ _
      | exact ih1 _ _ _ _ _ _ _ _ _ _ _
      | exact ih2 _ _ _ _ _ _ _ _
      | exact sobriquetkeep_Bytes.mono _ _ _
      | exact sobriquetlaw01_wakes.mono _
      | exact sobriquetref01_HeadBytes.mono _ _ _ _ _ _
      | exact sobriquetref01_One.mono _ _
      | exact sobriquetref01_Read.mono _ _
      | exact sobriquetref01_Wrap.mono _ _ _ _ _
      | exact tlv_Bytes.mono _ _ _ _ _ _
      | exact tlv_One.mono _ _
      | exact tlv_Read.mono _ _
      | exact tlv_Wrap.mono _ _ _ _ _ _ _
      | exact LeO.none _
      | refine LeO.ite ?_ ?_
      | refine LeO.bind ?_ (fun _ => ?_)
    · intro y0 y1 y2 y3 y4 y5 y6 y7 y8 y9 y10
      unfold sobriquetlaw01_TlvExact.j1
      repeat' first
      | (with_reducible exact ih0 _ _ _ _ _ _ _ _ _ _ _ _ _ _ _ _ _ _ _ _)
      | (with_reducible exact ih1 _ _ _ _ _ _ _ _ _ _ _)
      | (with_reducible exact ih2 _ _ _ _ _ _ _ _)
      | (with_reducible exact sobriquetkeep_Bytes.mono _ _ _)
      | (with_reducible exact sobriquetlaw01_wakes.mono _)
      | (with_reducible exact sobriquetref01_HeadBytes.mono _ _ _ _ _ _)
      | (with_reducible exact sobriquetref01_One.mono _ _)
      | (with_reducible exact sobriquetref01_Read.mono _ _)
      | (with_reducible exact sobriquetref01_Wrap.mono _ _ _ _ _)
      | (with_reducible exact tlv_Bytes.mono _ _ _ _ _ _)
      | (with_reducible exact tlv_One.mono _ _)
      | (with_reducible exact tlv_Read.mono _ _)
      | (with_reducible exact tlv_Wrap.mono _ _ _ _ _ _ _)
      | (with_reducible exact LeO.refl _)
      | (with_reducible exact LeO.none _)
      | (with_reducible refine LeO.ite ?_ ?_)
      | (with_reducible refine LeO.bind ?_ (fun _ => ?_))
      | exact ih0 _ _ _ _ _ _ _ _ _ _ _ _ _ _ _ _ _ _ _ _
      | exact ih1 _ _ _ _ _ _ _ _ _ _ _
      | exact ih2 _ _ _ _ _ _ _ _
      | exact sobriquetkeep_Bytes.mono _ _ _
      | exact sobriquetlaw01_wakes.mono _
      | exact sobriquetref01_HeadBytes.mono _ _ _ _ _ _
      | exact sobriquetref01_One.mono _ _
      | exact sobriquetref01_Read.mono _ _
      | exact sobriquetref01_Wrap.mono _ _ _ _ _
      | exact tlv_Bytes.mono _ _ _ _ _ _
      | exact tlv_One.mono _ _
      | exact tlv_Read.mono _ _
      | exact tlv_Wrap.mono _ _ _ _ _ _ _
      | exact LeO.none _
      | refine LeO.ite ?_ ?_
      | refine LeO.bind ?_ (fun _ => ?_)
    · intro y0 y1 y2 y3 y4 y5 y6 y7
      unfold sobriquetlaw01_TlvExact.j2
      repeat' first
      | (with_reducible exact ih0 _ _ _ _ _ _ _ _ _ _ _ _ _ _ _ _ _ _ _ _)
      | (with_reducible exact ih1 _ _ _ _ _ _ _ _ _ _ _)
      | (with_reducible exact ih2 _ _ _ _ _ _ _ _)
      | (with_reducible exact sobriquetkeep_Bytes.mono _ _ _)
      | (with_reducible exact sobriquetlaw01_wakes.mono _)
      | (with_reducible exact sobriquetref01_HeadBytes.mono _ _ _ _ _ _)
      | (with_reducible exact sobriquetref01_One.mono _ _)
      | (with_reducible exact sobriquetref01_Read.mono _ _)
      | (with_reducible exact sobriquetref01_Wrap.mono _ _ _ _ _)
      | (with_reducible exact tlv_Bytes.mono _ _ _ _ _ _)
      | (with_reducible exact tlv_One.mono _ _)
      | (with_reducible exact tlv_Read.mono _ _)
      | (with_reducible exact tlv_Wrap.mono _ _ _ _ _ _ _)
      | (with_reducible exact LeO.refl _)
      | (with_reducible exact LeO.none _)
      | (with_reducible refine LeO.ite ?_ ?_)
      | (with_reducible refine LeO.bind ?_ (fun _ => ?_))
      | exact ih0 _ _ _ _ _ _ _ _ _ _ _ _ _ _ _ _ _ _ _ _
      | exact ih1 _ _ _ _ _ _ _ _ _ _ _
      | exact ih2 _ _ _ _ _ _ _ _
      | exact sobriquetkeep_Bytes.mono _ _ _
      | exact sobriquetlaw01_wakes.mono _
      | exact sobriquetref01_HeadBytes.mono _ _ _ _ _ _
      | exact sobriquetref01_One.mono _ _
      | exact sobriquetref01_Read.mono _ _
      | exact sobriquetref01_Wrap.mono _ _ _ _ _
      | exact tlv_Bytes.mono _ _ _ _ _ _
      | exact tlv_One.mono _ _
      | exact tlv_Read.mono _ _
      | exact tlv_Wrap.mono _ _ _ _ _ _ _
      | exact LeO.none _
      | refine LeO.ite ?_ ?_
      | refine LeO.bind ?_ (fun _ => ?_)
theorem sobriquetlaw01_TlvExact.mono : ∀ a0 a1 a2 a3 a4 a5 k, LeO (sobriquetlaw01_TlvExact.f k a0 a1 a2 a3 a4 a5) (sobriquetlaw01_TlvExact.f (k + 1) a0 a1 a2 a3 a4 a5) := by
  intro a0 a1 a2 a3 a4 a5 k
  obtain ⟨ih0, ih1, ih2⟩ := sobriquetlaw01_TlvExact.mono_l k
  unfold sobriquetlaw01_TlvExact.f
  repeat' first
      | (with_reducible exact ih0 _ _ _ _ _ _ _ _ _ _ _ _ _ _ _ _ _ _ _ _)
      | (with_reducible exact ih1 _ _ _ _ _ _ _ _ _ _ _)
      | (with_reducible exact ih2 _ _ _ _ _ _ _ _)
      | (with_reducible exact sobriquetkeep_Bytes.mono _ _ _)
      | (with_reducible exact sobriquetlaw01_wakes.mono _)
      | (with_reducible exact sobriquetref01_HeadBytes.mono _ _ _ _ _ _)
      | (with_reducible exact sobriquetref01_One.mono _ _)
      | (with_reducible exact sobriquetref01_Read.mono _ _)
      | (with_reducible exact sobriquetref01_Wrap.mono _ _ _ _ _)
      | (with_reducible exact tlv_Bytes.mono _ _ _ _ _ _)
      | (with_reducible exact tlv_One.mono _ _)
      | (with_reducible exact tlv_Read.mono _ _)
      | (with_reducible exact tlv_Wrap.mono _ _ _ _ _ _ _)
      | (with_reducible exact LeO.refl _)
      | (with_reducible exact LeO.none _)
      | (with_reducible refine LeO.ite ?_ ?_)
      | (with_reducible refine LeO.bind ?_ (fun _ => ?_))
      | exact ih0 _ _ _ _ _ _ _ _ _ _ _ _ _ _ _ _ _ _ _ _
      | exact ih1 _ _ _ _ _ _ _ _ _ _ _
      | exact ih2 _ _ _ _ _ _ _ _
      | exact sobriquetkeep_Bytes.mono _ _ _
      | exact sobriquetlaw01_wakes.mono _
      | exact sobriquetref01_HeadBytes.mono _ _ _ _ _ _
      | exact sobriquetref01_One.mono _ _
      | exact sobriquetref01_Read.mono _ _
      | exact sobriquetref01_Wrap.mono _ _ _ _ _
      | exact tlv_Bytes.mono _ _ _ _ _ _
      | exact tlv_One.mono _ _
      | exact tlv_Read.mono _ _
      | exact tlv_Wrap.mono _ _ _ _ _ _ _
      | exact LeO.none _
      | refine LeO.ite ?_ ?_
      | refine LeO.bind ?_ (fun _ => ?_)
set_option maxHeartbeats 8000000 in
set_option maxRecDepth 100000 in
theorem sobriquetlaw01_TlvExact.calls (k : Nat) (A0 : Option Addr) (c0 : Nat) (l0 : List Int) (a1_0 : Int) (a1_1 : Int) (a1_2 : Bool) (a1_3 : Int) (a1_4 : Int) (r : Bool) (w : World) (hr0 : Kd.C (Kd.int .u8) w A0 l0.length l0) (hc0 : l0.length ≤ c0) (h : sobriquetlaw01_TlvExact.f k l0 a1_0 a1_1 a1_2 a1_3 a1_4 = some r) (hrt0 : r = true) :
    Calls Try.prog 6 #[.slice A0 l0.length c0, .agg #[.int .i64 a1_0, .int .i64 a1_1, .bool a1_2, .int .i64 a1_3, .int .i64 a1_4]] w fun e w' => e = .returned (.bool r) ∧ Below w.heap.size w w' := by
  have hu23 := Try.underlying23
  have HR0 := Aside0.mk hr0
  have HC0 := Aside0.mk hc0
  clear hr0 hc0
  have HB := Aside0.mk (Below.refl w.heap.size w)
  have hrt := Aside0.mk hrt0
  clear hrt0
  have H : (if (l0.length : Int) > 700 then (some true) else ((sobriquetkeep_Twin.f l0).bind fun t280 => ((tlv_Read.f k t280).bind fun bt283 => ((sobriquetref01_Read.f k l0).bind fun bt290 => ((tlv_Bytes.f k a1_0 a1_1 a1_2 a1_3 a1_4).bind fun bt297 => ((tlv_One.f k t280).bind fun bt301 => ((sobriquetref01_One.f k l0).bind fun bt314 => ((tlv_Wrap.f k a1_0 a1_1 a1_2 a1_3 a1_4 t280).bind fun bt322 => (if (!(bt283.1 == bt290.1) || (!(bt283.2.1 == bt290.2.1) || (!(bt283.2.2.1 == bt290.2.2.1) || (!(bt283.2.2.2.1 == bt290.2.2.2.1) || (!(bt283.2.2.2.2.1 == bt290.2.2.2.2.1)))))) = true then (sobriquetlaw01_TlvExact.j0 k l0 bt297.1 bt297.2 bt301.2.2.2.2.2.1 bt301.2.2.2.2.2.2.1 bt314.2.2.2.2.2.1 bt314.2.2.2.2.2.2 bt322.1 bt322.2 true a1_0 a1_1 a1_2 a1_3 a1_4 bt314.1 bt314.2.1 bt314.2.2.1 bt314.2.2.2.1 bt314.2.2.2.2.1) else (if bt283.2.2.2.2.2 = bt290.2.2.2.2.2 then (if (!(bt301.1 == bt314.1) || (!(bt301.2.1 == bt314.2.1) || (!(bt301.2.2.1 == bt314.2.2.1) || (!(bt301.2.2.2.1 == bt314.2.2.2.1) || (!(bt301.2.2.2.2.1 == bt314.2.2.2.2.1)))))) = true then (sobriquetlaw01_TlvExact.j0 k l0 bt297.1 bt297.2 bt301.2.2.2.2.2.1 bt301.2.2.2.2.2.2.1 bt314.2.2.2.2.2.1 bt314.2.2.2.2.2.2 bt322.1 bt322.2 true a1_0 a1_1 a1_2 a1_3 a1_4 bt314.1 bt314.2.1 bt314.2.2.1 bt314.2.2.2.1 bt314.2.2.2.2.1) else (if bt301.2.2.2.2.2.2.2 = bt314.2.2.2.2.2.2 then ((sobriquetkeep_Bytes.f k t280 l0).bind fun t326 => (sobriquetlaw01_TlvExact.j0 k l0 bt297.1 bt297.2 bt301.2.2.2.2.2.1 bt301.2.2.2.2.2.2.1 bt314.2.2.2.2.2.1 bt314.2.2.2.2.2.2 bt322.1 bt322.2 (!t326) a1_0 a1_1 a1_2 a1_3 a1_4 bt314.1 bt314.2.1 bt314.2.2.1 bt314.2.2.2.1 bt314.2.2.2.2.1)) else (sobriquetlaw01_TlvExact.j0 k l0 bt297.1 bt297.2 bt301.2.2.2.2.2.1 bt301.2.2.2.2.2.2.1 bt314.2.2.2.2.2.1 bt314.2.2.2.2.2.2 bt322.1 bt322.2 true a1_0 a1_1 a1_2 a1_3 a1_4 bt314.1 bt314.2.1 bt314.2.2.1 bt314.2.2.2.1 bt314.2.2.2.2.1))) else (sobriquetlaw01_TlvExact.j0 k l0 bt297.1 bt297.2 bt301.2.2.2.2.2.1 bt301.2.2.2.2.2.2.1 bt314.2.2.2.2.2.1 bt314.2.2.2.2.2.2 bt322.1 bt322.2 true a1_0 a1_1 a1_2 a1_3 a1_4 bt314.1 bt314.2.1 bt314.2.2.1 bt314.2.2.2.1 bt314.2.2.2.2.1))))))))))) = some r := h
  clear h
  by_cases c3 : (l0.length : Int) > 700
  · rw [if_pos c3] at H
    have c3b0 : decide (700 < (l0.length : Int)) = true := decide_eq_true c3
    have c3b1 : decide (700 < l0.length) = true := decide_eq_true (by omega)
    clear c3
    obtain rfl := Option.some.inj H
    go_enter Try.func6, Try.ntmps6
    go_wp2_with (first | ((with_reducible refine gate_dst (N := 3) rfl ?_); (try (refine gate_guard (by rfl) ?_; dsimp only)); refine box_event ?hg (N := 3) ?hd (cs := #[.int .i64 a1_0, .int .i64 a1_1, .bool a1_2, .int .i64 a1_3, .int .i64 a1_4]) (t := 23) ?hr ?_; (case hd => rfl); (case hg => rfl); (case hr => first | (go_simp; done) | (go_simp; rfl)); intro gb279 hg w4 hbox hb; have n0_ := Aside0.mk (below_step (by repeat (first | (with_reducible first | exact HB.out | apply below_alloc | apply pw_below_drewN | apply below_drew1) | exact HB.out)) hb); have n1_ := Aside0.mk (hbox); have n2_ := Aside0.mk ((by rw [hg]; exact (below_size (by repeat (first | (with_reducible first | exact HB.out | apply below_alloc | apply pw_below_drewN | apply below_drew1) | exact HB.out))) : w.heap.size ≤ gb279)); have n3_ := Aside0.mk ((by rw [hg]; exact (below_size (by repeat (first | (with_reducible first | exact HB.out | apply below_alloc | apply pw_below_drewN | apply below_drew1) | exact HB.out))) : w.heap.size ≤ gb279)); clear HB; have HB := n0_; have BK279 := n1_; have GW279 := n2_; have GE279 := n3_; clear n0_ n1_ n2_ n3_; clear hb hbox hg))
    go_ret
    exact ⟨by first | rfl | (simp [errW_none, errW_some] <;> rfl) | (simp [*, errW_none, errW_some] <;> rfl), by repeat (first | (with_reducible first | exact HB.out | apply below_alloc | apply pw_below_drewN | apply below_drew1 | refine below_set ?_ GE279.out) | exact HB.out)⟩
  · rw [if_neg c3] at H
    have c3b0 : decide (700 < (l0.length : Int)) = false := decide_eq_false c3
    have c3b1 : decide (700 < l0.length) = false := decide_eq_false (by omega)
    clear c3
    replace H := Option.bind_eq_some_iff.mp H
    obtain ⟨t280, A50, H⟩ := H
    replace H : ((tlv_Read.f k t280).bind fun bt283 => ((sobriquetref01_Read.f k l0).bind fun bt290 => ((tlv_Bytes.f k a1_0 a1_1 a1_2 a1_3 a1_4).bind fun bt297 => ((tlv_One.f k t280).bind fun bt301 => ((sobriquetref01_One.f k l0).bind fun bt314 => ((tlv_Wrap.f k a1_0 a1_1 a1_2 a1_3 a1_4 t280).bind fun bt322 => (if (!(bt283.1 == bt290.1) || (!(bt283.2.1 == bt290.2.1) || (!(bt283.2.2.1 == bt290.2.2.1) || (!(bt283.2.2.2.1 == bt290.2.2.2.1) || (!(bt283.2.2.2.2.1 == bt290.2.2.2.2.1)))))) = true then (sobriquetlaw01_TlvExact.j0 k l0 bt297.1 bt297.2 bt301.2.2.2.2.2.1 bt301.2.2.2.2.2.2.1 bt314.2.2.2.2.2.1 bt314.2.2.2.2.2.2 bt322.1 bt322.2 true a1_0 a1_1 a1_2 a1_3 a1_4 bt314.1 bt314.2.1 bt314.2.2.1 bt314.2.2.2.1 bt314.2.2.2.2.1) else (if bt283.2.2.2.2.2 = bt290.2.2.2.2.2 then (if (!(bt301.1 == bt314.1) || (!(bt301.2.1 == bt314.2.1) || (!(bt301.2.2.1 == bt314.2.2.1) || (!(bt301.2.2.2.1 == bt314.2.2.2.1) || (!(bt301.2.2.2.2.1 == bt314.2.2.2.2.1)))))) = true then (sobriquetlaw01_TlvExact.j0 k l0 bt297.1 bt297.2 bt301.2.2.2.2.2.1 bt301.2.2.2.2.2.2.1 bt314.2.2.2.2.2.1 bt314.2.2.2.2.2.2 bt322.1 bt322.2 true a1_0 a1_1 a1_2 a1_3 a1_4 bt314.1 bt314.2.1 bt314.2.2.1 bt314.2.2.2.1 bt314.2.2.2.2.1) else (if bt301.2.2.2.2.2.2.2 = bt314.2.2.2.2.2.2 then ((sobriquetkeep_Bytes.f k t280 l0).bind fun t326 => (sobriquetlaw01_TlvExact.j0 k l0 bt297.1 bt297.2 bt301.2.2.2.2.2.1 bt301.2.2.2.2.2.2.1 bt314.2.2.2.2.2.1 bt314.2.2.2.2.2.2 bt322.1 bt322.2 (!t326) a1_0 a1_1 a1_2 a1_3 a1_4 bt314.1 bt314.2.1 bt314.2.2.1 bt314.2.2.2.1 bt314.2.2.2.2.1)) else (sobriquetlaw01_TlvExact.j0 k l0 bt297.1 bt297.2 bt301.2.2.2.2.2.1 bt301.2.2.2.2.2.2.1 bt314.2.2.2.2.2.1 bt314.2.2.2.2.2.2 bt322.1 bt322.2 true a1_0 a1_1 a1_2 a1_3 a1_4 bt314.1 bt314.2.1 bt314.2.2.1 bt314.2.2.2.1 bt314.2.2.2.2.1))) else (sobriquetlaw01_TlvExact.j0 k l0 bt297.1 bt297.2 bt301.2.2.2.2.2.1 bt301.2.2.2.2.2.2.1 bt314.2.2.2.2.2.1 bt314.2.2.2.2.2.2 bt322.1 bt322.2 true a1_0 a1_1 a1_2 a1_3 a1_4 bt314.1 bt314.2.1 bt314.2.2.1 bt314.2.2.2.1 bt314.2.2.2.2.1))))))))) = some r := H
    have A5 := Aside0.mk A50
    clear A50
    replace H := Option.bind_eq_some_iff.mp H
    obtain ⟨⟨t283, t284, t285, t286, t287, t288⟩, A60, H⟩ := H
    replace H : ((sobriquetref01_Read.f k l0).bind fun bt290 => ((tlv_Bytes.f k a1_0 a1_1 a1_2 a1_3 a1_4).bind fun bt297 => ((tlv_One.f k t280).bind fun bt301 => ((sobriquetref01_One.f k l0).bind fun bt314 => ((tlv_Wrap.f k a1_0 a1_1 a1_2 a1_3 a1_4 t280).bind fun bt322 => (if (!(t283 == bt290.1) || (!(t284 == bt290.2.1) || (!(t285 == bt290.2.2.1) || (!(t286 == bt290.2.2.2.1) || (!(t287 == bt290.2.2.2.2.1)))))) = true then (sobriquetlaw01_TlvExact.j0 k l0 bt297.1 bt297.2 bt301.2.2.2.2.2.1 bt301.2.2.2.2.2.2.1 bt314.2.2.2.2.2.1 bt314.2.2.2.2.2.2 bt322.1 bt322.2 true a1_0 a1_1 a1_2 a1_3 a1_4 bt314.1 bt314.2.1 bt314.2.2.1 bt314.2.2.2.1 bt314.2.2.2.2.1) else (if t288 = bt290.2.2.2.2.2 then (if (!(bt301.1 == bt314.1) || (!(bt301.2.1 == bt314.2.1) || (!(bt301.2.2.1 == bt314.2.2.1) || (!(bt301.2.2.2.1 == bt314.2.2.2.1) || (!(bt301.2.2.2.2.1 == bt314.2.2.2.2.1)))))) = true then (sobriquetlaw01_TlvExact.j0 k l0 bt297.1 bt297.2 bt301.2.2.2.2.2.1 bt301.2.2.2.2.2.2.1 bt314.2.2.2.2.2.1 bt314.2.2.2.2.2.2 bt322.1 bt322.2 true a1_0 a1_1 a1_2 a1_3 a1_4 bt314.1 bt314.2.1 bt314.2.2.1 bt314.2.2.2.1 bt314.2.2.2.2.1) else (if bt301.2.2.2.2.2.2.2 = bt314.2.2.2.2.2.2 then ((sobriquetkeep_Bytes.f k t280 l0).bind fun t326 => (sobriquetlaw01_TlvExact.j0 k l0 bt297.1 bt297.2 bt301.2.2.2.2.2.1 bt301.2.2.2.2.2.2.1 bt314.2.2.2.2.2.1 bt314.2.2.2.2.2.2 bt322.1 bt322.2 (!t326) a1_0 a1_1 a1_2 a1_3 a1_4 bt314.1 bt314.2.1 bt314.2.2.1 bt314.2.2.2.1 bt314.2.2.2.2.1)) else (sobriquetlaw01_TlvExact.j0 k l0 bt297.1 bt297.2 bt301.2.2.2.2.2.1 bt301.2.2.2.2.2.2.1 bt314.2.2.2.2.2.1 bt314.2.2.2.2.2.2 bt322.1 bt322.2 true a1_0 a1_1 a1_2 a1_3 a1_4 bt314.1 bt314.2.1 bt314.2.2.1 bt314.2.2.2.1 bt314.2.2.2.2.1))) else (sobriquetlaw01_TlvExact.j0 k l0 bt297.1 bt297.2 bt301.2.2.2.2.2.1 bt301.2.2.2.2.2.2.1 bt314.2.2.2.2.2.1 bt314.2.2.2.2.2.2 bt322.1 bt322.2 true a1_0 a1_1 a1_2 a1_3 a1_4 bt314.1 bt314.2.1 bt314.2.2.1 bt314.2.2.2.1 bt314.2.2.2.2.1)))))))) = some r := H
    have A6 := Aside0.mk A60
    clear A60
    replace H := Option.bind_eq_some_iff.mp H
    obtain ⟨⟨t290, t291, t292, t293, t294, t295⟩, A70, H⟩ := H
    replace H : ((tlv_Bytes.f k a1_0 a1_1 a1_2 a1_3 a1_4).bind fun bt297 => ((tlv_One.f k t280).bind fun bt301 => ((sobriquetref01_One.f k l0).bind fun bt314 => ((tlv_Wrap.f k a1_0 a1_1 a1_2 a1_3 a1_4 t280).bind fun bt322 => (if (!(t283 == t290) || (!(t284 == t291) || (!(t285 == t292) || (!(t286 == t293) || (!(t287 == t294)))))) = true then (sobriquetlaw01_TlvExact.j0 k l0 bt297.1 bt297.2 bt301.2.2.2.2.2.1 bt301.2.2.2.2.2.2.1 bt314.2.2.2.2.2.1 bt314.2.2.2.2.2.2 bt322.1 bt322.2 true a1_0 a1_1 a1_2 a1_3 a1_4 bt314.1 bt314.2.1 bt314.2.2.1 bt314.2.2.2.1 bt314.2.2.2.2.1) else (if t288 = t295 then (if (!(bt301.1 == bt314.1) || (!(bt301.2.1 == bt314.2.1) || (!(bt301.2.2.1 == bt314.2.2.1) || (!(bt301.2.2.2.1 == bt314.2.2.2.1) || (!(bt301.2.2.2.2.1 == bt314.2.2.2.2.1)))))) = true then (sobriquetlaw01_TlvExact.j0 k l0 bt297.1 bt297.2 bt301.2.2.2.2.2.1 bt301.2.2.2.2.2.2.1 bt314.2.2.2.2.2.1 bt314.2.2.2.2.2.2 bt322.1 bt322.2 true a1_0 a1_1 a1_2 a1_3 a1_4 bt314.1 bt314.2.1 bt314.2.2.1 bt314.2.2.2.1 bt314.2.2.2.2.1) else (if bt301.2.2.2.2.2.2.2 = bt314.2.2.2.2.2.2 then ((sobriquetkeep_Bytes.f k t280 l0).bind fun t326 => (sobriquetlaw01_TlvExact.j0 k l0 bt297.1 bt297.2 bt301.2.2.2.2.2.1 bt301.2.2.2.2.2.2.1 bt314.2.2.2.2.2.1 bt314.2.2.2.2.2.2 bt322.1 bt322.2 (!t326) a1_0 a1_1 a1_2 a1_3 a1_4 bt314.1 bt314.2.1 bt314.2.2.1 bt314.2.2.2.1 bt314.2.2.2.2.1)) else (sobriquetlaw01_TlvExact.j0 k l0 bt297.1 bt297.2 bt301.2.2.2.2.2.1 bt301.2.2.2.2.2.2.1 bt314.2.2.2.2.2.1 bt314.2.2.2.2.2.2 bt322.1 bt322.2 true a1_0 a1_1 a1_2 a1_3 a1_4 bt314.1 bt314.2.1 bt314.2.2.1 bt314.2.2.2.1 bt314.2.2.2.2.1))) else (sobriquetlaw01_TlvExact.j0 k l0 bt297.1 bt297.2 bt301.2.2.2.2.2.1 bt301.2.2.2.2.2.2.1 bt314.2.2.2.2.2.1 bt314.2.2.2.2.2.2 bt322.1 bt322.2 true a1_0 a1_1 a1_2 a1_3 a1_4 bt314.1 bt314.2.1 bt314.2.2.1 bt314.2.2.2.1 bt314.2.2.2.2.1))))))) = some r := H
    have A7 := Aside0.mk A70
    clear A70
    replace H := Option.bind_eq_some_iff.mp H
    obtain ⟨⟨t297, t300⟩, A80, H⟩ := H
    replace H : ((tlv_One.f k t280).bind fun bt301 => ((sobriquetref01_One.f k l0).bind fun bt314 => ((tlv_Wrap.f k a1_0 a1_1 a1_2 a1_3 a1_4 t280).bind fun bt322 => (if (!(t283 == t290) || (!(t284 == t291) || (!(t285 == t292) || (!(t286 == t293) || (!(t287 == t294)))))) = true then (sobriquetlaw01_TlvExact.j0 k l0 t297 t300 bt301.2.2.2.2.2.1 bt301.2.2.2.2.2.2.1 bt314.2.2.2.2.2.1 bt314.2.2.2.2.2.2 bt322.1 bt322.2 true a1_0 a1_1 a1_2 a1_3 a1_4 bt314.1 bt314.2.1 bt314.2.2.1 bt314.2.2.2.1 bt314.2.2.2.2.1) else (if t288 = t295 then (if (!(bt301.1 == bt314.1) || (!(bt301.2.1 == bt314.2.1) || (!(bt301.2.2.1 == bt314.2.2.1) || (!(bt301.2.2.2.1 == bt314.2.2.2.1) || (!(bt301.2.2.2.2.1 == bt314.2.2.2.2.1)))))) = true then (sobriquetlaw01_TlvExact.j0 k l0 t297 t300 bt301.2.2.2.2.2.1 bt301.2.2.2.2.2.2.1 bt314.2.2.2.2.2.1 bt314.2.2.2.2.2.2 bt322.1 bt322.2 true a1_0 a1_1 a1_2 a1_3 a1_4 bt314.1 bt314.2.1 bt314.2.2.1 bt314.2.2.2.1 bt314.2.2.2.2.1) else (if bt301.2.2.2.2.2.2.2 = bt314.2.2.2.2.2.2 then ((sobriquetkeep_Bytes.f k t280 l0).bind fun t326 => (sobriquetlaw01_TlvExact.j0 k l0 t297 t300 bt301.2.2.2.2.2.1 bt301.2.2.2.2.2.2.1 bt314.2.2.2.2.2.1 bt314.2.2.2.2.2.2 bt322.1 bt322.2 (!t326) a1_0 a1_1 a1_2 a1_3 a1_4 bt314.1 bt314.2.1 bt314.2.2.1 bt314.2.2.2.1 bt314.2.2.2.2.1)) else (sobriquetlaw01_TlvExact.j0 k l0 t297 t300 bt301.2.2.2.2.2.1 bt301.2.2.2.2.2.2.1 bt314.2.2.2.2.2.1 bt314.2.2.2.2.2.2 bt322.1 bt322.2 true a1_0 a1_1 a1_2 a1_3 a1_4 bt314.1 bt314.2.1 bt314.2.2.1 bt314.2.2.2.1 bt314.2.2.2.2.1))) else (sobriquetlaw01_TlvExact.j0 k l0 t297 t300 bt301.2.2.2.2.2.1 bt301.2.2.2.2.2.2.1 bt314.2.2.2.2.2.1 bt314.2.2.2.2.2.2 bt322.1 bt322.2 true a1_0 a1_1 a1_2 a1_3 a1_4 bt314.1 bt314.2.1 bt314.2.2.1 bt314.2.2.2.1 bt314.2.2.2.2.1)))))) = some r := H
    have A8 := Aside0.mk A80
    clear A80
    replace H := Option.bind_eq_some_iff.mp H
    obtain ⟨⟨t301, t302, t303, t304, t305, t306, t309, t312⟩, A90, H⟩ := H
    replace H : ((sobriquetref01_One.f k l0).bind fun bt314 => ((tlv_Wrap.f k a1_0 a1_1 a1_2 a1_3 a1_4 t280).bind fun bt322 => (if (!(t283 == t290) || (!(t284 == t291) || (!(t285 == t292) || (!(t286 == t293) || (!(t287 == t294)))))) = true then (sobriquetlaw01_TlvExact.j0 k l0 t297 t300 t306 t309 bt314.2.2.2.2.2.1 bt314.2.2.2.2.2.2 bt322.1 bt322.2 true a1_0 a1_1 a1_2 a1_3 a1_4 bt314.1 bt314.2.1 bt314.2.2.1 bt314.2.2.2.1 bt314.2.2.2.2.1) else (if t288 = t295 then (if (!(t301 == bt314.1) || (!(t302 == bt314.2.1) || (!(t303 == bt314.2.2.1) || (!(t304 == bt314.2.2.2.1) || (!(t305 == bt314.2.2.2.2.1)))))) = true then (sobriquetlaw01_TlvExact.j0 k l0 t297 t300 t306 t309 bt314.2.2.2.2.2.1 bt314.2.2.2.2.2.2 bt322.1 bt322.2 true a1_0 a1_1 a1_2 a1_3 a1_4 bt314.1 bt314.2.1 bt314.2.2.1 bt314.2.2.2.1 bt314.2.2.2.2.1) else (if t312 = bt314.2.2.2.2.2.2 then ((sobriquetkeep_Bytes.f k t280 l0).bind fun t326 => (sobriquetlaw01_TlvExact.j0 k l0 t297 t300 t306 t309 bt314.2.2.2.2.2.1 bt314.2.2.2.2.2.2 bt322.1 bt322.2 (!t326) a1_0 a1_1 a1_2 a1_3 a1_4 bt314.1 bt314.2.1 bt314.2.2.1 bt314.2.2.2.1 bt314.2.2.2.2.1)) else (sobriquetlaw01_TlvExact.j0 k l0 t297 t300 t306 t309 bt314.2.2.2.2.2.1 bt314.2.2.2.2.2.2 bt322.1 bt322.2 true a1_0 a1_1 a1_2 a1_3 a1_4 bt314.1 bt314.2.1 bt314.2.2.1 bt314.2.2.2.1 bt314.2.2.2.2.1))) else (sobriquetlaw01_TlvExact.j0 k l0 t297 t300 t306 t309 bt314.2.2.2.2.2.1 bt314.2.2.2.2.2.2 bt322.1 bt322.2 true a1_0 a1_1 a1_2 a1_3 a1_4 bt314.1 bt314.2.1 bt314.2.2.1 bt314.2.2.2.1 bt314.2.2.2.2.1))))) = some r := H
    have A9 := Aside0.mk A90
    clear A90
    replace H := Option.bind_eq_some_iff.mp H
    obtain ⟨⟨t314, t315, t316, t317, t318, t319, t320⟩, A100, H⟩ := H
    replace H : ((tlv_Wrap.f k a1_0 a1_1 a1_2 a1_3 a1_4 t280).bind fun bt322 => (if (!(t283 == t290) || (!(t284 == t291) || (!(t285 == t292) || (!(t286 == t293) || (!(t287 == t294)))))) = true then (sobriquetlaw01_TlvExact.j0 k l0 t297 t300 t306 t309 t319 t320 bt322.1 bt322.2 true a1_0 a1_1 a1_2 a1_3 a1_4 t314 t315 t316 t317 t318) else (if t288 = t295 then (if (!(t301 == t314) || (!(t302 == t315) || (!(t303 == t316) || (!(t304 == t317) || (!(t305 == t318)))))) = true then (sobriquetlaw01_TlvExact.j0 k l0 t297 t300 t306 t309 t319 t320 bt322.1 bt322.2 true a1_0 a1_1 a1_2 a1_3 a1_4 t314 t315 t316 t317 t318) else (if t312 = t320 then ((sobriquetkeep_Bytes.f k t280 l0).bind fun t326 => (sobriquetlaw01_TlvExact.j0 k l0 t297 t300 t306 t309 t319 t320 bt322.1 bt322.2 (!t326) a1_0 a1_1 a1_2 a1_3 a1_4 t314 t315 t316 t317 t318)) else (sobriquetlaw01_TlvExact.j0 k l0 t297 t300 t306 t309 t319 t320 bt322.1 bt322.2 true a1_0 a1_1 a1_2 a1_3 a1_4 t314 t315 t316 t317 t318))) else (sobriquetlaw01_TlvExact.j0 k l0 t297 t300 t306 t309 t319 t320 bt322.1 bt322.2 true a1_0 a1_1 a1_2 a1_3 a1_4 t314 t315 t316 t317 t318)))) = some r := H
    have A10 := Aside0.mk A100
    clear A100
    replace H := Option.bind_eq_some_iff.mp H
    obtain ⟨⟨t322, t325⟩, A110, H⟩ := H
    replace H : (if (!(t283 == t290) || (!(t284 == t291) || (!(t285 == t292) || (!(t286 == t293) || (!(t287 == t294)))))) = true then (sobriquetlaw01_TlvExact.j0 k l0 t297 t300 t306 t309 t319 t320 t322 t325 true a1_0 a1_1 a1_2 a1_3 a1_4 t314 t315 t316 t317 t318) else (if t288 = t295 then (if (!(t301 == t314) || (!(t302 == t315) || (!(t303 == t316) || (!(t304 == t317) || (!(t305 == t318)))))) = true then (sobriquetlaw01_TlvExact.j0 k l0 t297 t300 t306 t309 t319 t320 t322 t325 true a1_0 a1_1 a1_2 a1_3 a1_4 t314 t315 t316 t317 t318) else (if t312 = t320 then ((sobriquetkeep_Bytes.f k t280 l0).bind fun t326 => (sobriquetlaw01_TlvExact.j0 k l0 t297 t300 t306 t309 t319 t320 t322 t325 (!t326) a1_0 a1_1 a1_2 a1_3 a1_4 t314 t315 t316 t317 t318)) else (sobriquetlaw01_TlvExact.j0 k l0 t297 t300 t306 t309 t319 t320 t322 t325 true a1_0 a1_1 a1_2 a1_3 a1_4 t314 t315 t316 t317 t318))) else (sobriquetlaw01_TlvExact.j0 k l0 t297 t300 t306 t309 t319 t320 t322 t325 true a1_0 a1_1 a1_2 a1_3 a1_4 t314 t315 t316 t317 t318))) = some r := H
    have A11 := Aside0.mk A110
    clear A110
    have HC12 := Aside0.mk H
    clear H
    go_enter Try.func6, Try.ntmps6
    go_upto_region 10 with (first | ((with_reducible refine gate_dst (N := 3) rfl ?_); (try (refine gate_guard (by rfl) ?_; dsimp only)); refine box_event ?hg (N := 3) ?hd (cs := #[.int .i64 a1_0, .int .i64 a1_1, .bool a1_2, .int .i64 a1_3, .int .i64 a1_4]) (t := 23) ?hr ?_; (case hd => rfl); (case hg => rfl); (case hr => first | (go_simp; done) | (go_simp; rfl)); intro gb279 hg w13 hbox hb; have n0_ := Aside0.mk (below_step (by repeat (first | (with_reducible first | exact HB.out | apply below_alloc | apply pw_below_drewN | apply below_drew1) | exact HB.out)) hb); have n1_ := Aside0.mk (hbox); have n2_ := Aside0.mk ((by rw [hg]; exact (below_size (by repeat (first | (with_reducible first | exact HB.out | apply below_alloc | apply pw_below_drewN | apply below_drew1) | exact HB.out))) : w.heap.size ≤ gb279)); have n3_ := Aside0.mk ((by rw [hg]; exact (below_size (by repeat (first | (with_reducible first | exact HB.out | apply below_alloc | apply pw_below_drewN | apply below_drew1) | exact HB.out))) : w.heap.size ≤ gb279)); clear HB; have HB := n0_; have BK279 := n1_; have GW279 := n2_; have GE279 := n3_; clear n0_ n1_ n2_ n3_; clear hb hbox hg) | ((with_reducible refine gate_callee (f := 11) rfl ?_); refine goesL_ (some 25) rfl rfl Try.func11 (by kernel_rfl) rfl #[.slice A0 l0.length c0] rfl (by (try simp only [List.map_toArray, List.map_cons, List.map_nil]); first | done | rfl | (simp only [List.length_drop, List.length_take]; rfl)) ?_; (with_reducible refine (sobriquetkeep_Twin.calls _ _ l0 t280 _ ?side1 ?side2 A5.out).mono ?_); (case side1 => repeat (first | exact (Kd.C_below HR0.out HB.out) | (with_reducible refine Kd.C_alloc ?_ _) | (with_reducible refine Kd.C_drewN ?_ _) | (with_reducible refine Kd.C_drew ?_))); (case side2 => exact HC0.out); rintro e w14 ⟨v281, rfl, ho0, hb⟩; refine ⟨_, rfl, ?_⟩; have n0_ := Aside0.mk (Kd.R_lower ho0 (below_size (by repeat (first | (with_reducible first | exact HB.out | apply below_alloc | apply pw_below_drewN | apply below_drew1 | refine below_set ?_ GE279.out) | exact HB.out)))); have n1_ := Aside0.mk (blk_below (g := gb279) (o := .cells #[.int .i64 a1_0, .int .i64 a1_1, .bool a1_2, .int .i64 a1_3, .int .i64 a1_4] 23 (0, 0)) (by (with_reducible repeat (first | refine blk_drewN ?_ _ | refine blk_drew ?_ | refine blk_alloc ?_ _)); exact BK279.out) hb); have n2_ := Aside0.mk (below_step (by repeat (first | (with_reducible first | exact HB.out | apply below_alloc | apply pw_below_drewN | apply below_drew1 | refine below_set ?_ GE279.out) | exact HB.out)) hb); clear BK279; clear HB; have HO282 := n0_; have BK279 := n1_; have HB := n2_; clear n0_ n1_ n2_; (try clear hb); (try clear hb2); (try clear hk); (try clear hi); (try clear ho0); obtain ⟨Ao15, co15, eo15⟩ := Kd.R_slice HO282.out; subst eo15) | ((with_reducible refine gate_callee (f := 10) rfl ?_); refine goesL_ (some 28) rfl rfl Try.func10 (by kernel_rfl) rfl #[.slice Ao15 t280.length co15] rfl (by (try simp only [List.map_toArray, List.map_cons, List.map_nil]); first | done | rfl | (simp only [List.length_drop, List.length_take]; rfl)) ?_; (with_reducible refine (tlv_Read.calls k _ _ t280 t283 t284 t285 t286 t287 t288 _ ?side1 ?side2 A6.out).mono ?_); (case side1 => repeat (first | exact (Kd.R_reads' HO282.out).2.2 | (with_reducible refine Kd.C_alloc ?_ _) | (with_reducible refine Kd.C_drewN ?_ _) | (with_reducible refine Kd.C_drew ?_))); (case side2 => exact (Kd.R_reads' HO282.out).2.1); rintro e w16 ⟨rfl, hb⟩; refine ⟨_, rfl, ?_⟩; have n0_ := Aside0.mk (Kd.R_below (by (with_reducible repeat (first | apply Kd.R_alloc | apply Kd.R_drewN | apply Kd.R_drew)); exact HO282.out) hb); have n1_ := Aside0.mk (blk_below (g := gb279) (o := .cells #[.int .i64 a1_0, .int .i64 a1_1, .bool a1_2, .int .i64 a1_3, .int .i64 a1_4] 23 (0, 0)) (by (with_reducible repeat (first | refine blk_drewN ?_ _ | refine blk_drew ?_ | refine blk_alloc ?_ _)); exact BK279.out) hb); have n2_ := Aside0.mk (below_step (by repeat (first | (with_reducible first | exact HB.out | apply below_alloc | apply pw_below_drewN | apply below_drew1 | refine below_set ?_ GE279.out) | exact HB.out)) hb); clear HO282; clear BK279; clear HB; have HO282 := n0_; have BK279 := n1_; have HB := n2_; clear n0_ n1_ n2_; (try clear hb); (try clear hb2); (try clear hk); (try clear hi)) | ((with_reducible refine gate_dst (N := 6) rfl ?_); (try (refine gate_guard (by rfl) ?_; dsimp only)); refine box_event ?hg (N := 6) ?hd (cs := #[.int .i64 0, .int .i64 0, .bool false, .int .i64 0, .int .i64 0]) (t := 23) ?hr ?_; (case hd => rfl); (case hg => rfl); (case hr => first | (go_simp; done) | (go_simp; rfl)); intro gb289 hg w17 hbox hb; have n0_ := Aside0.mk (Kd.R_below (by (with_reducible repeat (first | apply Kd.R_alloc | apply Kd.R_drewN | apply Kd.R_drew)); exact HO282.out) hb); have n1_ := Aside0.mk (blk_below (g := gb279) (o := .cells #[.int .i64 a1_0, .int .i64 a1_1, .bool a1_2, .int .i64 a1_3, .int .i64 a1_4] 23 (0, 0)) (by (with_reducible repeat (first | refine blk_drewN ?_ _ | refine blk_drew ?_ | refine blk_alloc ?_ _)); exact BK279.out) hb); have n2_ := Aside0.mk (below_step (by repeat (first | (with_reducible first | exact HB.out | apply below_alloc | apply pw_below_drewN | apply below_drew1 | refine below_set ?_ GE279.out) | exact HB.out)) hb); have n3_ := Aside0.mk (hbox); have n4_ := Aside0.mk ((by rw [hg]; exact (below_size (by repeat (first | (with_reducible first | exact HB.out | apply below_alloc | apply pw_below_drewN | apply below_drew1 | refine below_set ?_ GE279.out) | exact HB.out))) : w.heap.size ≤ gb289)); have n5_ := Aside0.mk ((by rw [hg]; exact (below_size (by repeat (first | (with_reducible first | exact HB.out | apply below_alloc | apply pw_below_drewN | apply below_drew1 | refine below_set ?_ GE279.out) | exact HB.out))) : w.heap.size ≤ gb289)); have n6_ := Aside0.mk ((by rw [hg]; exact Nat.ne_of_lt (blk_lt (g := gb279) (o := .cells #[.int .i64 a1_0, .int .i64 a1_1, .bool a1_2, .int .i64 a1_3, .int .i64 a1_4] 23 (0, 0)) (by (with_reducible repeat (first | refine blk_drewN ?_ _ | refine blk_drew ?_ | refine blk_alloc ?_ _)); exact BK279.out)) : gb279 ≠ gb289)); have n7_ := Aside0.mk ((by rw [hg]; exact Nat.ne_of_gt (blk_lt (g := gb279) (o := .cells #[.int .i64 a1_0, .int .i64 a1_1, .bool a1_2, .int .i64 a1_3, .int .i64 a1_4] 23 (0, 0)) (by (with_reducible repeat (first | refine blk_drewN ?_ _ | refine blk_drew ?_ | refine blk_alloc ?_ _)); exact BK279.out)) : gb289 ≠ gb279)); clear HO282; clear BK279; clear HB; have HO282 := n0_; have BK279 := n1_; have HB := n2_; have BK289 := n3_; have GW289 := n4_; have GE289 := n5_; have NB279_289 := n6_; have NB289_279 := n7_; clear n0_ n1_ n2_ n3_ n4_ n5_ n6_ n7_; clear hb hbox hg; have hnb18 := NB289_279.out; have hnc18 := NB279_289.out; have hcz19_0 : w17.cell? ⟨gb289, 0, none⟩ = some (.int .i64 0) := (blk_cell BK289.out 0).trans rfl; have hcz19_1 : w17.cell? ⟨gb289, 1, none⟩ = some (.int .i64 0) := (blk_cell BK289.out 1).trans rfl; have hcz19_2 : w17.cell? ⟨gb289, 2, none⟩ = some (.bool false) := (blk_cell BK289.out 2).trans rfl; have hcz19_3 : w17.cell? ⟨gb289, 3, none⟩ = some (.int .i64 0) := (blk_cell BK289.out 3).trans rfl; have hcz19_4 : w17.cell? ⟨gb289, 4, none⟩ = some (.int .i64 0) := (blk_cell BK289.out 4).trans rfl; have hfz19_0 := blk_frozen BK289.out 0; have hfz19_1 := blk_frozen BK289.out 1; have hfz19_2 := blk_frozen BK289.out 2; have hfz19_3 := blk_frozen BK289.out 3; have hfz19_4 := blk_frozen BK289.out 4) | ((with_reducible refine gate_callee (f := 13) rfl ?_); refine goesL_ (some 33) rfl rfl Try.func13 (by kernel_rfl) rfl #[.slice A0 l0.length c0] rfl (by (try simp only [List.map_toArray, List.map_cons, List.map_nil]); first | done | rfl | (simp only [List.length_drop, List.length_take]; rfl)) ?_; (with_reducible refine (sobriquetref01_Read.calls k _ _ l0 t290 t291 t292 t293 t294 t295 _ ?side1 ?side2 A7.out).mono ?_); (case side1 => exact Kd.C_below HR0.out (by repeat (first | (with_reducible first | exact HB.out | apply below_alloc | apply pw_below_drewN | apply below_drew1 | refine below_set ?_ GE279.out | refine below_set ?_ GE289.out) | exact HB.out))); (case side2 => exact HC0.out); rintro e w20 ⟨rfl, hb⟩; refine ⟨_, rfl, ?_⟩; have n0_ := Aside0.mk (Kd.R_below (by (with_reducible repeat (first | apply Kd.R_alloc | apply Kd.R_drewN | apply Kd.R_drew)); exact (Kd.R_mono (Kd.R_far (p := ⟨gb289, 4, none⟩) (Kd.R_far (p := ⟨gb289, 3, none⟩) (Kd.R_far (p := ⟨gb289, 2, none⟩) (Kd.R_far (p := ⟨gb289, 1, none⟩) (Kd.R_far (p := ⟨gb289, 0, none⟩) (Kd.R_types HO282.out BK289.out (by decide)) (fun _ hk => hk.2) (.int .i64 t283)) (fun _ hk => hk.2) (.int .i64 t284)) (fun _ hk => hk.2) (.bool t285)) (fun _ hk => hk.2) (.int .i64 t286)) (fun _ hk => hk.2) (.int .i64 t287)) (fun _ h_ => h_.1))) hb); have n1_ := Aside0.mk (blk_below (g := gb279) (o := .cells #[.int .i64 a1_0, .int .i64 a1_1, .bool a1_2, .int .i64 a1_3, .int .i64 a1_4] 23 (0, 0)) (by (with_reducible repeat (first | refine blk_drewN ?_ _ | refine blk_drew ?_ | refine blk_alloc ?_ _)); refine blk_far ?_ NB279_289.out _; (with_reducible repeat (first | refine blk_drewN ?_ _ | refine blk_drew ?_ | refine blk_alloc ?_ _)); refine blk_far ?_ NB279_289.out _; (with_reducible repeat (first | refine blk_drewN ?_ _ | refine blk_drew ?_ | refine blk_alloc ?_ _)); refine blk_far ?_ NB279_289.out _; (with_reducible repeat (first | refine blk_drewN ?_ _ | refine blk_drew ?_ | refine blk_alloc ?_ _)); refine blk_far ?_ NB279_289.out _; (with_reducible repeat (first | refine blk_drewN ?_ _ | refine blk_drew ?_ | refine blk_alloc ?_ _)); refine blk_far ?_ NB279_289.out _; (with_reducible repeat (first | refine blk_drewN ?_ _ | refine blk_drew ?_ | refine blk_alloc ?_ _)); exact BK279.out) hb); have n2_ := Aside0.mk (blk_below (g := gb289) (o := .cells #[.int .i64 t283, .int .i64 t284, .bool t285, .int .i64 t286, .int .i64 t287] 23 (0, 0)) (by (with_reducible repeat (first | refine blk_drewN ?_ _ | refine blk_drew ?_ | refine blk_alloc ?_ _)); refine blk_put (cs := #[.int .i64 t283, .int .i64 t284, .bool t285, .int .i64 t286, .int .i64 0]) ?_ 4 _ rfl; (with_reducible repeat (first | refine blk_drewN ?_ _ | refine blk_drew ?_ | refine blk_alloc ?_ _)); refine blk_put (cs := #[.int .i64 t283, .int .i64 t284, .bool t285, .int .i64 0, .int .i64 0]) ?_ 3 _ rfl; (with_reducible repeat (first | refine blk_drewN ?_ _ | refine blk_drew ?_ | refine blk_alloc ?_ _)); refine blk_put (cs := #[.int .i64 t283, .int .i64 t284, .bool false, .int .i64 0, .int .i64 0]) ?_ 2 _ rfl; (with_reducible repeat (first | refine blk_drewN ?_ _ | refine blk_drew ?_ | refine blk_alloc ?_ _)); refine blk_put (cs := #[.int .i64 t283, .int .i64 0, .bool false, .int .i64 0, .int .i64 0]) ?_ 1 _ rfl; (with_reducible repeat (first | refine blk_drewN ?_ _ | refine blk_drew ?_ | refine blk_alloc ?_ _)); refine blk_put (cs := #[.int .i64 0, .int .i64 0, .bool false, .int .i64 0, .int .i64 0]) ?_ 0 _ rfl; (with_reducible repeat (first | refine blk_drewN ?_ _ | refine blk_drew ?_ | refine blk_alloc ?_ _)); exact BK289.out) hb); have n3_ := Aside0.mk (below_step (by repeat (first | (with_reducible first | exact HB.out | apply below_alloc | apply pw_below_drewN | apply below_drew1 | refine below_set ?_ GE279.out | refine below_set ?_ GE289.out) | exact HB.out)) hb); clear HO282; clear BK279; clear BK289; clear HB; have HO282 := n0_; have BK279 := n1_; have BK289 := n2_; have HB := n3_; clear n0_ n1_ n2_ n3_; (try clear hb); (try clear hb2); (try clear hk); (try clear hi)) | ((with_reducible refine gate_dst (N := 8) rfl ?_); (try (refine gate_guard (by rfl) ?_; dsimp only)); refine box_event ?hg (N := 8) ?hd (cs := #[.int .i64 0, .int .i64 0, .bool false, .int .i64 0, .int .i64 0]) (t := 23) ?hr ?_; (case hd => rfl); (case hg => rfl); (case hr => first | (go_simp; done) | (go_simp; rfl)); intro gb296 hg w21 hbox hb; have n0_ := Aside0.mk (Kd.R_below (by (with_reducible repeat (first | apply Kd.R_alloc | apply Kd.R_drewN | apply Kd.R_drew)); exact HO282.out) hb); have n1_ := Aside0.mk (blk_below (g := gb279) (o := .cells #[.int .i64 a1_0, .int .i64 a1_1, .bool a1_2, .int .i64 a1_3, .int .i64 a1_4] 23 (0, 0)) (by (with_reducible repeat (first | refine blk_drewN ?_ _ | refine blk_drew ?_ | refine blk_alloc ?_ _)); exact BK279.out) hb); have n2_ := Aside0.mk (blk_below (g := gb289) (o := .cells #[.int .i64 t283, .int .i64 t284, .bool t285, .int .i64 t286, .int .i64 t287] 23 (0, 0)) (by (with_reducible repeat (first | refine blk_drewN ?_ _ | refine blk_drew ?_ | refine blk_alloc ?_ _)); exact BK289.out) hb); have n3_ := Aside0.mk (below_step (by repeat (first | (with_reducible first | exact HB.out | apply below_alloc | apply pw_below_drewN | apply below_drew1 | refine below_set ?_ GE279.out | refine below_set ?_ GE289.out) | exact HB.out)) hb); have n4_ := Aside0.mk (hbox); have n5_ := Aside0.mk ((by rw [hg]; exact (below_size (by repeat (first | (with_reducible first | exact HB.out | apply below_alloc | apply pw_below_drewN | apply below_drew1 | refine below_set ?_ GE279.out | refine below_set ?_ GE289.out) | exact HB.out))) : w.heap.size ≤ gb296)); have n6_ := Aside0.mk ((by rw [hg]; exact (below_size (by repeat (first | (with_reducible first | exact HB.out | apply below_alloc | apply pw_below_drewN | apply below_drew1 | refine below_set ?_ GE279.out | refine below_set ?_ GE289.out) | exact HB.out))) : w.heap.size ≤ gb296)); have n7_ := Aside0.mk ((by rw [hg]; exact Nat.ne_of_lt (blk_lt (g := gb279) (o := .cells #[.int .i64 a1_0, .int .i64 a1_1, .bool a1_2, .int .i64 a1_3, .int .i64 a1_4] 23 (0, 0)) (by (with_reducible repeat (first | refine blk_drewN ?_ _ | refine blk_drew ?_ | refine blk_alloc ?_ _)); exact BK279.out)) : gb279 ≠ gb296)); have n8_ := Aside0.mk ((by rw [hg]; exact Nat.ne_of_gt (blk_lt (g := gb279) (o := .cells #[.int .i64 a1_0, .int .i64 a1_1, .bool a1_2, .int .i64 a1_3, .int .i64 a1_4] 23 (0, 0)) (by (with_reducible repeat (first | refine blk_drewN ?_ _ | refine blk_drew ?_ | refine blk_alloc ?_ _)); exact BK279.out)) : gb296 ≠ gb279)); have n9_ := Aside0.mk ((by rw [hg]; exact Nat.ne_of_lt (blk_lt (g := gb289) (o := .cells #[.int .i64 t283, .int .i64 t284, .bool t285, .int .i64 t286, .int .i64 t287] 23 (0, 0)) (by (with_reducible repeat (first | refine blk_drewN ?_ _ | refine blk_drew ?_ | refine blk_alloc ?_ _)); exact BK289.out)) : gb289 ≠ gb296)); have n10_ := Aside0.mk ((by rw [hg]; exact Nat.ne_of_gt (blk_lt (g := gb289) (o := .cells #[.int .i64 t283, .int .i64 t284, .bool t285, .int .i64 t286, .int .i64 t287] 23 (0, 0)) (by (with_reducible repeat (first | refine blk_drewN ?_ _ | refine blk_drew ?_ | refine blk_alloc ?_ _)); exact BK289.out)) : gb296 ≠ gb289)); clear HO282; clear BK279; clear BK289; clear HB; have HO282 := n0_; have BK279 := n1_; have BK289 := n2_; have HB := n3_; have BK296 := n4_; have GW296 := n5_; have GE296 := n6_; have NB279_296 := n7_; have NB296_279 := n8_; have NB289_296 := n9_; have NB296_289 := n10_; clear n0_ n1_ n2_ n3_ n4_ n5_ n6_ n7_ n8_ n9_ n10_; clear hb hbox hg; have hnb22 := NB296_279.out; have hnc22 := NB279_296.out; have hnb23 := NB296_289.out; have hnc23 := NB289_296.out; have hcz24_0 : w21.cell? ⟨gb296, 0, none⟩ = some (.int .i64 0) := (blk_cell BK296.out 0).trans rfl; have hcz24_1 : w21.cell? ⟨gb296, 1, none⟩ = some (.int .i64 0) := (blk_cell BK296.out 1).trans rfl; have hcz24_2 : w21.cell? ⟨gb296, 2, none⟩ = some (.bool false) := (blk_cell BK296.out 2).trans rfl; have hcz24_3 : w21.cell? ⟨gb296, 3, none⟩ = some (.int .i64 0) := (blk_cell BK296.out 3).trans rfl; have hcz24_4 : w21.cell? ⟨gb296, 4, none⟩ = some (.int .i64 0) := (blk_cell BK296.out 4).trans rfl; have hfz24_0 := blk_frozen BK296.out 0; have hfz24_1 := blk_frozen BK296.out 1; have hfz24_2 := blk_frozen BK296.out 2; have hfz24_3 := blk_frozen BK296.out 3; have hfz24_4 := blk_frozen BK296.out 4; have hcz25_0 : w21.cell? ⟨gb279, 0, none⟩ = some (.int .i64 a1_0) := (blk_cell BK279.out 0).trans rfl; have hcz25_1 : w21.cell? ⟨gb279, 1, none⟩ = some (.int .i64 a1_1) := (blk_cell BK279.out 1).trans rfl; have hcz25_2 : w21.cell? ⟨gb279, 2, none⟩ = some (.bool a1_2) := (blk_cell BK279.out 2).trans rfl; have hcz25_3 : w21.cell? ⟨gb279, 3, none⟩ = some (.int .i64 a1_3) := (blk_cell BK279.out 3).trans rfl; have hcz25_4 : w21.cell? ⟨gb279, 4, none⟩ = some (.int .i64 a1_4) := (blk_cell BK279.out 4).trans rfl; have hfz25_0 := blk_frozen BK279.out 0; have hfz25_1 := blk_frozen BK279.out 1; have hfz25_2 := blk_frozen BK279.out 2; have hfz25_3 := blk_frozen BK279.out 3; have hfz25_4 := blk_frozen BK279.out 4) | ((with_reducible refine gate_callee (f := 8) rfl ?_); refine goesL_ (some 38) rfl rfl Try.func8 (by kernel_rfl) rfl #[.agg #[.int .i64 a1_0, .int .i64 a1_1, .bool a1_2, .int .i64 a1_3, .int .i64 a1_4]] rfl (by (try simp only [List.map_toArray, List.map_cons, List.map_nil]); first | done | rfl | (simp only [List.length_drop, List.length_take]; rfl)) ?_; (with_reducible refine (tlv_Bytes.calls k a1_0 a1_1 a1_2 a1_3 a1_4 t297 t300 _ A8.out).mono ?_); rintro e w26 ⟨v298, rfl, ho0, hb⟩; refine ⟨_, rfl, ?_⟩; have n0_ := Aside0.mk (Kd.R_elder' (by (with_reducible repeat (first | apply Kd.R_alloc | apply Kd.R_drewN | apply Kd.R_drew)); exact (Kd.R_mono (Kd.R_far (p := ⟨gb296, 4, none⟩) (Kd.R_far (p := ⟨gb296, 3, none⟩) (Kd.R_far (p := ⟨gb296, 2, none⟩) (Kd.R_far (p := ⟨gb296, 1, none⟩) (Kd.R_far (p := ⟨gb296, 0, none⟩) (Kd.R_types HO282.out BK296.out (by decide)) (fun _ hk => hk.2) (.int .i64 t290)) (fun _ hk => hk.2) (.int .i64 t291)) (fun _ hk => hk.2) (.bool t292)) (fun _ hk => hk.2) (.int .i64 t293)) (fun _ hk => hk.2) (.int .i64 t294)) (fun _ h_ => h_.1))) (Kd.R_base ho0) hb); have n1_ := Aside0.mk (Kd.R_lower (Kd.R_new' ho0 (Kd.R_lt (by (with_reducible repeat (first | apply Kd.R_alloc | apply Kd.R_drewN | apply Kd.R_drew)); exact (Kd.R_mono (Kd.R_far (p := ⟨gb296, 4, none⟩) (Kd.R_far (p := ⟨gb296, 3, none⟩) (Kd.R_far (p := ⟨gb296, 2, none⟩) (Kd.R_far (p := ⟨gb296, 1, none⟩) (Kd.R_far (p := ⟨gb296, 0, none⟩) (Kd.R_types HO282.out BK296.out (by decide)) (fun _ hk => hk.2) (.int .i64 t290)) (fun _ hk => hk.2) (.int .i64 t291)) (fun _ hk => hk.2) (.bool t292)) (fun _ hk => hk.2) (.int .i64 t293)) (fun _ hk => hk.2) (.int .i64 t294)) (fun _ h_ => h_.1))))) (below_size (by repeat (first | (with_reducible first | exact HB.out | apply below_alloc | apply pw_below_drewN | apply below_drew1 | refine below_set ?_ GE279.out | refine below_set ?_ GE289.out | refine below_set ?_ GE296.out) | exact HB.out)))); have n2_ := Aside0.mk (blk_below (g := gb279) (o := .cells #[.int .i64 a1_0, .int .i64 a1_1, .bool a1_2, .int .i64 a1_3, .int .i64 a1_4] 23 (0, 0)) (by (with_reducible repeat (first | refine blk_drewN ?_ _ | refine blk_drew ?_ | refine blk_alloc ?_ _)); refine blk_far ?_ NB279_296.out _; (with_reducible repeat (first | refine blk_drewN ?_ _ | refine blk_drew ?_ | refine blk_alloc ?_ _)); refine blk_far ?_ NB279_296.out _; (with_reducible repeat (first | refine blk_drewN ?_ _ | refine blk_drew ?_ | refine blk_alloc ?_ _)); refine blk_far ?_ NB279_296.out _; (with_reducible repeat (first | refine blk_drewN ?_ _ | refine blk_drew ?_ | refine blk_alloc ?_ _)); refine blk_far ?_ NB279_296.out _; (with_reducible repeat (first | refine blk_drewN ?_ _ | refine blk_drew ?_ | refine blk_alloc ?_ _)); refine blk_far ?_ NB279_296.out _; (with_reducible repeat (first | refine blk_drewN ?_ _ | refine blk_drew ?_ | refine blk_alloc ?_ _)); exact BK279.out) hb); have n3_ := Aside0.mk (blk_below (g := gb289) (o := .cells #[.int .i64 t283, .int .i64 t284, .bool t285, .int .i64 t286, .int .i64 t287] 23 (0, 0)) (by (with_reducible repeat (first | refine blk_drewN ?_ _ | refine blk_drew ?_ | refine blk_alloc ?_ _)); refine blk_far ?_ NB289_296.out _; (with_reducible repeat (first | refine blk_drewN ?_ _ | refine blk_drew ?_ | refine blk_alloc ?_ _)); refine blk_far ?_ NB289_296.out _; (with_reducible repeat (first | refine blk_drewN ?_ _ | refine blk_drew ?_ | refine blk_alloc ?_ _)); refine blk_far ?_ NB289_296.out _; (with_reducible repeat (first | refine blk_drewN ?_ _ | refine blk_drew ?_ | refine blk_alloc ?_ _)); refine blk_far ?_ NB289_296.out _; (with_reducible repeat (first | refine blk_drewN ?_ _ | refine blk_drew ?_ | refine blk_alloc ?_ _)); refine blk_far ?_ NB289_296.out _; (with_reducible repeat (first | refine blk_drewN ?_ _ | refine blk_drew ?_ | refine blk_alloc ?_ _)); exact BK289.out) hb); have n4_ := Aside0.mk (blk_below (g := gb296) (o := .cells #[.int .i64 t290, .int .i64 t291, .bool t292, .int .i64 t293, .int .i64 t294] 23 (0, 0)) (by (with_reducible repeat (first | refine blk_drewN ?_ _ | refine blk_drew ?_ | refine blk_alloc ?_ _)); refine blk_put (cs := #[.int .i64 t290, .int .i64 t291, .bool t292, .int .i64 t293, .int .i64 0]) ?_ 4 _ rfl; (with_reducible repeat (first | refine blk_drewN ?_ _ | refine blk_drew ?_ | refine blk_alloc ?_ _)); refine blk_put (cs := #[.int .i64 t290, .int .i64 t291, .bool t292, .int .i64 0, .int .i64 0]) ?_ 3 _ rfl; (with_reducible repeat (first | refine blk_drewN ?_ _ | refine blk_drew ?_ | refine blk_alloc ?_ _)); refine blk_put (cs := #[.int .i64 t290, .int .i64 t291, .bool false, .int .i64 0, .int .i64 0]) ?_ 2 _ rfl; (with_reducible repeat (first | refine blk_drewN ?_ _ | refine blk_drew ?_ | refine blk_alloc ?_ _)); refine blk_put (cs := #[.int .i64 t290, .int .i64 0, .bool false, .int .i64 0, .int .i64 0]) ?_ 1 _ rfl; (with_reducible repeat (first | refine blk_drewN ?_ _ | refine blk_drew ?_ | refine blk_alloc ?_ _)); refine blk_put (cs := #[.int .i64 0, .int .i64 0, .bool false, .int .i64 0, .int .i64 0]) ?_ 0 _ rfl; (with_reducible repeat (first | refine blk_drewN ?_ _ | refine blk_drew ?_ | refine blk_alloc ?_ _)); exact BK296.out) hb); have n5_ := Aside0.mk (below_step (by repeat (first | (with_reducible first | exact HB.out | apply below_alloc | apply pw_below_drewN | apply below_drew1 | refine below_set ?_ GE279.out | refine below_set ?_ GE289.out | refine below_set ?_ GE296.out) | exact HB.out)) hb); clear HO282; clear BK279; clear BK289; clear BK296; clear HB; have HO282 := n0_; have HO299 := n1_; have BK279 := n2_; have BK289 := n3_; have BK296 := n4_; have HB := n5_; clear n0_ n1_ n2_ n3_ n4_ n5_; (try clear hb); (try clear hb2); (try clear hk); (try clear hi); (try clear ho0)) | ((with_reducible refine gate_callee (f := 14) rfl ?_); refine goesL_ (some 43) rfl rfl Try.func14 (by kernel_rfl) rfl #[.slice Ao15 t280.length co15] rfl (by (try simp only [List.map_toArray, List.map_cons, List.map_nil]); first | done | rfl | (simp only [List.length_drop, List.length_take]; rfl)) ?_; (with_reducible refine (tlv_One.calls k _ _ t280 t301 t302 t303 t304 t305 t306 t309 t312 _ ?side1 ?side2 A9.out).mono ?_); (case side1 => repeat (first | exact (Kd.R_reads' HO282.out).2.2 | (with_reducible refine Kd.C_alloc ?_ _) | (with_reducible refine Kd.C_drewN ?_ _) | (with_reducible refine Kd.C_drew ?_))); (case side2 => exact (Kd.R_reads' HO282.out).2.1); rintro e w27 ⟨v307, v310, rfl, ho0, ho1, hb⟩; refine ⟨_, rfl, ?_⟩; have n0_ := Aside0.mk (Kd.R_mono (Kd.R_told (Kd.R_told (Kd.R_old (by (with_reducible repeat (first | apply Kd.R_alloc | apply Kd.R_drewN | apply Kd.R_drew)); exact HO282.out) hb) (Kd.R_base ho0)) (Kd.R_base ho1)) (fun _ h_ => h_.1)); have n1_ := Aside0.mk (Kd.R_mono (Kd.R_told (Kd.R_told (Kd.R_old (by (with_reducible repeat (first | apply Kd.R_alloc | apply Kd.R_drewN | apply Kd.R_drew)); exact HO299.out) hb) (Kd.R_base ho0)) (Kd.R_base ho1)) (fun _ h_ => h_.1)); have n2_ := Aside0.mk (Kd.R_lower (Kd.R_new' (Kd.R_new' ho0 (Kd.R_lt (by (with_reducible repeat (first | apply Kd.R_alloc | apply Kd.R_drewN | apply Kd.R_drew)); exact HO282.out))) (Kd.R_lt (by (with_reducible repeat (first | apply Kd.R_alloc | apply Kd.R_drewN | apply Kd.R_drew)); exact HO299.out))) (below_size (by repeat (first | (with_reducible first | exact HB.out | apply below_alloc | apply pw_below_drewN | apply below_drew1 | refine below_set ?_ GE279.out | refine below_set ?_ GE289.out | refine below_set ?_ GE296.out) | exact HB.out)))); have n3_ := Aside0.mk (Kd.R_lower (Kd.R_new' (Kd.R_new' ho1 (Kd.R_lt (by (with_reducible repeat (first | apply Kd.R_alloc | apply Kd.R_drewN | apply Kd.R_drew)); exact HO282.out))) (Kd.R_lt (by (with_reducible repeat (first | apply Kd.R_alloc | apply Kd.R_drewN | apply Kd.R_drew)); exact HO299.out))) (below_size (by repeat (first | (with_reducible first | exact HB.out | apply below_alloc | apply pw_below_drewN | apply below_drew1 | refine below_set ?_ GE279.out | refine below_set ?_ GE289.out | refine below_set ?_ GE296.out) | exact HB.out)))); have n4_ := Aside0.mk (blk_below (g := gb279) (o := .cells #[.int .i64 a1_0, .int .i64 a1_1, .bool a1_2, .int .i64 a1_3, .int .i64 a1_4] 23 (0, 0)) (by (with_reducible repeat (first | refine blk_drewN ?_ _ | refine blk_drew ?_ | refine blk_alloc ?_ _)); exact BK279.out) hb); have n5_ := Aside0.mk (blk_below (g := gb289) (o := .cells #[.int .i64 t283, .int .i64 t284, .bool t285, .int .i64 t286, .int .i64 t287] 23 (0, 0)) (by (with_reducible repeat (first | refine blk_drewN ?_ _ | refine blk_drew ?_ | refine blk_alloc ?_ _)); exact BK289.out) hb); have n6_ := Aside0.mk (blk_below (g := gb296) (o := .cells #[.int .i64 t290, .int .i64 t291, .bool t292, .int .i64 t293, .int .i64 t294] 23 (0, 0)) (by (with_reducible repeat (first | refine blk_drewN ?_ _ | refine blk_drew ?_ | refine blk_alloc ?_ _)); exact BK296.out) hb); have n7_ := Aside0.mk (below_step (by repeat (first | (with_reducible first | exact HB.out | apply below_alloc | apply pw_below_drewN | apply below_drew1 | refine below_set ?_ GE279.out | refine below_set ?_ GE289.out | refine below_set ?_ GE296.out) | exact HB.out)) hb); clear HO282; clear HO299; clear BK279; clear BK289; clear BK296; clear HB; have HO282 := n0_; have HO299 := n1_; have HO308 := n2_; have HO311 := n3_; have BK279 := n4_; have BK289 := n5_; have BK296 := n6_; have HB := n7_; clear n0_ n1_ n2_ n3_ n4_ n5_ n6_ n7_; (try clear hb); (try clear hb2); (try clear hk); (try clear hi); (try clear ho0); (try clear ho1)) | ((with_reducible refine gate_dst (N := 12) rfl ?_); (try (refine gate_guard (by rfl) ?_; dsimp only)); refine box_event ?hg (N := 12) ?hd (cs := #[.int .i64 0, .int .i64 0, .bool false, .int .i64 0, .int .i64 0]) (t := 23) ?hr ?_; (case hd => rfl); (case hg => rfl); (case hr => first | (go_simp; done) | (go_simp; rfl)); intro gb313 hg w28 hbox hb; have n0_ := Aside0.mk (Kd.R_below (by (with_reducible repeat (first | apply Kd.R_alloc | apply Kd.R_drewN | apply Kd.R_drew)); exact HO282.out) hb); have n1_ := Aside0.mk (Kd.R_below (by (with_reducible repeat (first | apply Kd.R_alloc | apply Kd.R_drewN | apply Kd.R_drew)); exact HO299.out) hb); have n2_ := Aside0.mk (Kd.R_below (by (with_reducible repeat (first | apply Kd.R_alloc | apply Kd.R_drewN | apply Kd.R_drew)); exact HO308.out) hb); have n3_ := Aside0.mk (Kd.R_below (by (with_reducible repeat (first | apply Kd.R_alloc | apply Kd.R_drewN | apply Kd.R_drew)); exact HO311.out) hb); have n4_ := Aside0.mk (blk_below (g := gb279) (o := .cells #[.int .i64 a1_0, .int .i64 a1_1, .bool a1_2, .int .i64 a1_3, .int .i64 a1_4] 23 (0, 0)) (by (with_reducible repeat (first | refine blk_drewN ?_ _ | refine blk_drew ?_ | refine blk_alloc ?_ _)); exact BK279.out) hb); have n5_ := Aside0.mk (blk_below (g := gb289) (o := .cells #[.int .i64 t283, .int .i64 t284, .bool t285, .int .i64 t286, .int .i64 t287] 23 (0, 0)) (by (with_reducible repeat (first | refine blk_drewN ?_ _ | refine blk_drew ?_ | refine blk_alloc ?_ _)); exact BK289.out) hb); have n6_ := Aside0.mk (blk_below (g := gb296) (o := .cells #[.int .i64 t290, .int .i64 t291, .bool t292, .int .i64 t293, .int .i64 t294] 23 (0, 0)) (by (with_reducible repeat (first | refine blk_drewN ?_ _ | refine blk_drew ?_ | refine blk_alloc ?_ _)); exact BK296.out) hb); have n7_ := Aside0.mk (below_step (by repeat (first | (with_reducible first | exact HB.out | apply below_alloc | apply pw_below_drewN | apply below_drew1 | refine below_set ?_ GE279.out | refine below_set ?_ GE289.out | refine below_set ?_ GE296.out) | exact HB.out)) hb); have n8_ := Aside0.mk (hbox); have n9_ := Aside0.mk ((by rw [hg]; exact (below_size (by repeat (first | (with_reducible first | exact HB.out | apply below_alloc | apply pw_below_drewN | apply below_drew1 | refine below_set ?_ GE279.out | refine below_set ?_ GE289.out | refine below_set ?_ GE296.out) | exact HB.out))) : w.heap.size ≤ gb313)); have n10_ := Aside0.mk ((by rw [hg]; exact (below_size (by repeat (first | (with_reducible first | exact HB.out | apply below_alloc | apply pw_below_drewN | apply below_drew1 | refine below_set ?_ GE279.out | refine below_set ?_ GE289.out | refine below_set ?_ GE296.out) | exact HB.out))) : w.heap.size ≤ gb313)); have n11_ := Aside0.mk ((by rw [hg]; exact Nat.ne_of_lt (blk_lt (g := gb279) (o := .cells #[.int .i64 a1_0, .int .i64 a1_1, .bool a1_2, .int .i64 a1_3, .int .i64 a1_4] 23 (0, 0)) (by (with_reducible repeat (first | refine blk_drewN ?_ _ | refine blk_drew ?_ | refine blk_alloc ?_ _)); exact BK279.out)) : gb279 ≠ gb313)); have n12_ := Aside0.mk ((by rw [hg]; exact Nat.ne_of_gt (blk_lt (g := gb279) (o := .cells #[.int .i64 a1_0, .int .i64 a1_1, .bool a1_2, .int .i64 a1_3, .int .i64 a1_4] 23 (0, 0)) (by (with_reducible repeat (first | refine blk_drewN ?_ _ | refine blk_drew ?_ | refine blk_alloc ?_ _)); exact BK279.out)) : gb313 ≠ gb279)); have n13_ := Aside0.mk ((by rw [hg]; exact Nat.ne_of_lt (blk_lt (g := gb289) (o := .cells #[.int .i64 t283, .int .i64 t284, .bool t285, .int .i64 t286, .int .i64 t287] 23 (0, 0)) (by (with_reducible repeat (first | refine blk_drewN ?_ _ | refine blk_drew ?_ | refine blk_alloc ?_ _)); exact BK289.out)) : gb289 ≠ gb313)); have n14_ := Aside0.mk ((by rw [hg]; exact Nat.ne_of_gt (blk_lt (g := gb289) (o := .cells #[.int .i64 t283, .int .i64 t284, .bool t285, .int .i64 t286, .int .i64 t287] 23 (0, 0)) (by (with_reducible repeat (first | refine blk_drewN ?_ _ | refine blk_drew ?_ | refine blk_alloc ?_ _)); exact BK289.out)) : gb313 ≠ gb289)); have n15_ := Aside0.mk ((by rw [hg]; exact Nat.ne_of_lt (blk_lt (g := gb296) (o := .cells #[.int .i64 t290, .int .i64 t291, .bool t292, .int .i64 t293, .int .i64 t294] 23 (0, 0)) (by (with_reducible repeat (first | refine blk_drewN ?_ _ | refine blk_drew ?_ | refine blk_alloc ?_ _)); exact BK296.out)) : gb296 ≠ gb313)); have n16_ := Aside0.mk ((by rw [hg]; exact Nat.ne_of_gt (blk_lt (g := gb296) (o := .cells #[.int .i64 t290, .int .i64 t291, .bool t292, .int .i64 t293, .int .i64 t294] 23 (0, 0)) (by (with_reducible repeat (first | refine blk_drewN ?_ _ | refine blk_drew ?_ | refine blk_alloc ?_ _)); exact BK296.out)) : gb313 ≠ gb296)); clear HO282; clear HO299; clear HO308; clear HO311; clear BK279; clear BK289; clear BK296; clear HB; have HO282 := n0_; have HO299 := n1_; have HO308 := n2_; have HO311 := n3_; have BK279 := n4_; have BK289 := n5_; have BK296 := n6_; have HB := n7_; have BK313 := n8_; have GW313 := n9_; have GE313 := n10_; have NB279_313 := n11_; have NB313_279 := n12_; have NB289_313 := n13_; have NB313_289 := n14_; have NB296_313 := n15_; have NB313_296 := n16_; clear n0_ n1_ n2_ n3_ n4_ n5_ n6_ n7_ n8_ n9_ n10_ n11_ n12_ n13_ n14_ n15_ n16_; clear hb hbox hg; have hnb29 := NB313_279.out; have hnc29 := NB279_313.out; have hnb30 := NB313_289.out; have hnc30 := NB289_313.out; have hnb31 := NB313_296.out; have hnc31 := NB296_313.out; have hcz32_0 : w28.cell? ⟨gb313, 0, none⟩ = some (.int .i64 0) := (blk_cell BK313.out 0).trans rfl; have hcz32_1 : w28.cell? ⟨gb313, 1, none⟩ = some (.int .i64 0) := (blk_cell BK313.out 1).trans rfl; have hcz32_2 : w28.cell? ⟨gb313, 2, none⟩ = some (.bool false) := (blk_cell BK313.out 2).trans rfl; have hcz32_3 : w28.cell? ⟨gb313, 3, none⟩ = some (.int .i64 0) := (blk_cell BK313.out 3).trans rfl; have hcz32_4 : w28.cell? ⟨gb313, 4, none⟩ = some (.int .i64 0) := (blk_cell BK313.out 4).trans rfl; have hfz32_0 := blk_frozen BK313.out 0; have hfz32_1 := blk_frozen BK313.out 1; have hfz32_2 := blk_frozen BK313.out 2; have hfz32_3 := blk_frozen BK313.out 3; have hfz32_4 := blk_frozen BK313.out 4) | ((with_reducible refine gate_callee (f := 15) rfl ?_); refine goesL_ (some 50) rfl rfl Try.func15 (by kernel_rfl) rfl #[.slice A0 l0.length c0] rfl (by (try simp only [List.map_toArray, List.map_cons, List.map_nil]); first | done | rfl | (simp only [List.length_drop, List.length_take]; rfl)) ?_; (with_reducible refine (sobriquetref01_One.calls k _ _ l0 t314 t315 t316 t317 t318 t319 t320 _ ?side1 ?side2 A10.out).mono ?_); (case side1 => exact Kd.C_below HR0.out (by repeat (first | (with_reducible first | exact HB.out | apply below_alloc | apply pw_below_drewN | apply below_drew1 | refine below_set ?_ GE279.out | refine below_set ?_ GE289.out | refine below_set ?_ GE296.out | refine below_set ?_ GE313.out) | exact HB.out))); (case side2 => exact HC0.out); rintro e w33 ⟨rfl, hb⟩; refine ⟨_, rfl, ?_⟩; have n0_ := Aside0.mk (Kd.R_below (by (with_reducible repeat (first | apply Kd.R_alloc | apply Kd.R_drewN | apply Kd.R_drew)); exact (Kd.R_mono (Kd.R_far (p := ⟨gb313, 4, none⟩) (Kd.R_far (p := ⟨gb313, 3, none⟩) (Kd.R_far (p := ⟨gb313, 2, none⟩) (Kd.R_far (p := ⟨gb313, 1, none⟩) (Kd.R_far (p := ⟨gb313, 0, none⟩) (Kd.R_types HO282.out BK313.out (by decide)) (fun _ hk => hk.2) (.int .i64 t301)) (fun _ hk => hk.2) (.int .i64 t302)) (fun _ hk => hk.2) (.bool t303)) (fun _ hk => hk.2) (.int .i64 t304)) (fun _ hk => hk.2) (.int .i64 t305)) (fun _ h_ => h_.1))) hb); have n1_ := Aside0.mk (Kd.R_below (by (with_reducible repeat (first | apply Kd.R_alloc | apply Kd.R_drewN | apply Kd.R_drew)); exact (Kd.R_mono (Kd.R_far (p := ⟨gb313, 4, none⟩) (Kd.R_far (p := ⟨gb313, 3, none⟩) (Kd.R_far (p := ⟨gb313, 2, none⟩) (Kd.R_far (p := ⟨gb313, 1, none⟩) (Kd.R_far (p := ⟨gb313, 0, none⟩) (Kd.R_types HO299.out BK313.out (by decide)) (fun _ hk => hk.2) (.int .i64 t301)) (fun _ hk => hk.2) (.int .i64 t302)) (fun _ hk => hk.2) (.bool t303)) (fun _ hk => hk.2) (.int .i64 t304)) (fun _ hk => hk.2) (.int .i64 t305)) (fun _ h_ => h_.1))) hb); have n2_ := Aside0.mk (Kd.R_below (by (with_reducible repeat (first | apply Kd.R_alloc | apply Kd.R_drewN | apply Kd.R_drew)); exact (Kd.R_mono (Kd.R_far (p := ⟨gb313, 4, none⟩) (Kd.R_far (p := ⟨gb313, 3, none⟩) (Kd.R_far (p := ⟨gb313, 2, none⟩) (Kd.R_far (p := ⟨gb313, 1, none⟩) (Kd.R_far (p := ⟨gb313, 0, none⟩) (Kd.R_types HO308.out BK313.out (by decide)) (fun _ hk => hk.2) (.int .i64 t301)) (fun _ hk => hk.2) (.int .i64 t302)) (fun _ hk => hk.2) (.bool t303)) (fun _ hk => hk.2) (.int .i64 t304)) (fun _ hk => hk.2) (.int .i64 t305)) (fun _ h_ => h_.1))) hb); have n3_ := Aside0.mk (Kd.R_below (by (with_reducible repeat (first | apply Kd.R_alloc | apply Kd.R_drewN | apply Kd.R_drew)); exact (Kd.R_mono (Kd.R_far (p := ⟨gb313, 4, none⟩) (Kd.R_far (p := ⟨gb313, 3, none⟩) (Kd.R_far (p := ⟨gb313, 2, none⟩) (Kd.R_far (p := ⟨gb313, 1, none⟩) (Kd.R_far (p := ⟨gb313, 0, none⟩) (Kd.R_types HO311.out BK313.out (by decide)) (fun _ hk => hk.2) (.int .i64 t301)) (fun _ hk => hk.2) (.int .i64 t302)) (fun _ hk => hk.2) (.bool t303)) (fun _ hk => hk.2) (.int .i64 t304)) (fun _ hk => hk.2) (.int .i64 t305)) (fun _ h_ => h_.1))) hb); have n4_ := Aside0.mk (blk_below (g := gb279) (o := .cells #[.int .i64 a1_0, .int .i64 a1_1, .bool a1_2, .int .i64 a1_3, .int .i64 a1_4] 23 (0, 0)) (by (with_reducible repeat (first | refine blk_drewN ?_ _ | refine blk_drew ?_ | refine blk_alloc ?_ _)); refine blk_far ?_ NB279_313.out _; (with_reducible repeat (first | refine blk_drewN ?_ _ | refine blk_drew ?_ | refine blk_alloc ?_ _)); refine blk_far ?_ NB279_313.out _; (with_reducible repeat (first | refine blk_drewN ?_ _ | refine blk_drew ?_ | refine blk_alloc ?_ _)); refine blk_far ?_ NB279_313.out _; (with_reducible repeat (first | refine blk_drewN ?_ _ | refine blk_drew ?_ | refine blk_alloc ?_ _)); refine blk_far ?_ NB279_313.out _; (with_reducible repeat (first | refine blk_drewN ?_ _ | refine blk_drew ?_ | refine blk_alloc ?_ _)); refine blk_far ?_ NB279_313.out _; (with_reducible repeat (first | refine blk_drewN ?_ _ | refine blk_drew ?_ | refine blk_alloc ?_ _)); exact BK279.out) hb); have n5_ := Aside0.mk (blk_below (g := gb289) (o := .cells #[.int .i64 t283, .int .i64 t284, .bool t285, .int .i64 t286, .int .i64 t287] 23 (0, 0)) (by (with_reducible repeat (first | refine blk_drewN ?_ _ | refine blk_drew ?_ | refine blk_alloc ?_ _)); refine blk_far ?_ NB289_313.out _; (with_reducible repeat (first | refine blk_drewN ?_ _ | refine blk_drew ?_ | refine blk_alloc ?_ _)); refine blk_far ?_ NB289_313.out _; (with_reducible repeat (first | refine blk_drewN ?_ _ | refine blk_drew ?_ | refine blk_alloc ?_ _)); refine blk_far ?_ NB289_313.out _; (with_reducible repeat (first | refine blk_drewN ?_ _ | refine blk_drew ?_ | refine blk_alloc ?_ _)); refine blk_far ?_ NB289_313.out _; (with_reducible repeat (first | refine blk_drewN ?_ _ | refine blk_drew ?_ | refine blk_alloc ?_ _)); refine blk_far ?_ NB289_313.out _; (with_reducible repeat (first | refine blk_drewN ?_ _ | refine blk_drew ?_ | refine blk_alloc ?_ _)); exact BK289.out) hb); have n6_ := Aside0.mk (blk_below (g := gb296) (o := .cells #[.int .i64 t290, .int .i64 t291, .bool t292, .int .i64 t293, .int .i64 t294] 23 (0, 0)) (by (with_reducible repeat (first | refine blk_drewN ?_ _ | refine blk_drew ?_ | refine blk_alloc ?_ _)); refine blk_far ?_ NB296_313.out _; (with_reducible repeat (first | refine blk_drewN ?_ _ | refine blk_drew ?_ | refine blk_alloc ?_ _)); refine blk_far ?_ NB296_313.out _; (with_reducible repeat (first | refine blk_drewN ?_ _ | refine blk_drew ?_ | refine blk_alloc ?_ _)); refine blk_far ?_ NB296_313.out _; (with_reducible repeat (first | refine blk_drewN ?_ _ | refine blk_drew ?_ | refine blk_alloc ?_ _)); refine blk_far ?_ NB296_313.out _; (with_reducible repeat (first | refine blk_drewN ?_ _ | refine blk_drew ?_ | refine blk_alloc ?_ _)); refine blk_far ?_ NB296_313.out _; (with_reducible repeat (first | refine blk_drewN ?_ _ | refine blk_drew ?_ | refine blk_alloc ?_ _)); exact BK296.out) hb); have n7_ := Aside0.mk (blk_below (g := gb313) (o := .cells #[.int .i64 t301, .int .i64 t302, .bool t303, .int .i64 t304, .int .i64 t305] 23 (0, 0)) (by (with_reducible repeat (first | refine blk_drewN ?_ _ | refine blk_drew ?_ | refine blk_alloc ?_ _)); refine blk_put (cs := #[.int .i64 t301, .int .i64 t302, .bool t303, .int .i64 t304, .int .i64 0]) ?_ 4 _ rfl; (with_reducible repeat (first | refine blk_drewN ?_ _ | refine blk_drew ?_ | refine blk_alloc ?_ _)); refine blk_put (cs := #[.int .i64 t301, .int .i64 t302, .bool t303, .int .i64 0, .int .i64 0]) ?_ 3 _ rfl; (with_reducible repeat (first | refine blk_drewN ?_ _ | refine blk_drew ?_ | refine blk_alloc ?_ _)); refine blk_put (cs := #[.int .i64 t301, .int .i64 t302, .bool false, .int .i64 0, .int .i64 0]) ?_ 2 _ rfl; (with_reducible repeat (first | refine blk_drewN ?_ _ | refine blk_drew ?_ | refine blk_alloc ?_ _)); refine blk_put (cs := #[.int .i64 t301, .int .i64 0, .bool false, .int .i64 0, .int .i64 0]) ?_ 1 _ rfl; (with_reducible repeat (first | refine blk_drewN ?_ _ | refine blk_drew ?_ | refine blk_alloc ?_ _)); refine blk_put (cs := #[.int .i64 0, .int .i64 0, .bool false, .int .i64 0, .int .i64 0]) ?_ 0 _ rfl; (with_reducible repeat (first | refine blk_drewN ?_ _ | refine blk_drew ?_ | refine blk_alloc ?_ _)); exact BK313.out) hb); have n8_ := Aside0.mk (below_step (by repeat (first | (with_reducible first | exact HB.out | apply below_alloc | apply pw_below_drewN | apply below_drew1 | refine below_set ?_ GE279.out | refine below_set ?_ GE289.out | refine below_set ?_ GE296.out | refine below_set ?_ GE313.out) | exact HB.out)) hb); clear HO282; clear HO299; clear HO308; clear HO311; clear BK279; clear BK289; clear BK296; clear BK313; clear HB; have HO282 := n0_; have HO299 := n1_; have HO308 := n2_; have HO311 := n3_; have BK279 := n4_; have BK289 := n5_; have BK296 := n6_; have BK313 := n7_; have HB := n8_; clear n0_ n1_ n2_ n3_ n4_ n5_ n6_ n7_ n8_; (try clear hb); (try clear hb2); (try clear hk); (try clear hi)) | ((with_reducible refine gate_dst (N := 16) rfl ?_); (try (refine gate_guard (by rfl) ?_; dsimp only)); refine box_event ?hg (N := 16) ?hd (cs := #[.int .i64 0, .int .i64 0, .bool false, .int .i64 0, .int .i64 0]) (t := 23) ?hr ?_; (case hd => rfl); (case hg => rfl); (case hr => first | (go_simp; done) | (go_simp; rfl)); intro gb321 hg w34 hbox hb; have n0_ := Aside0.mk (Kd.R_below (by (with_reducible repeat (first | apply Kd.R_alloc | apply Kd.R_drewN | apply Kd.R_drew)); exact HO282.out) hb); have n1_ := Aside0.mk (Kd.R_below (by (with_reducible repeat (first | apply Kd.R_alloc | apply Kd.R_drewN | apply Kd.R_drew)); exact HO299.out) hb); have n2_ := Aside0.mk (Kd.R_below (by (with_reducible repeat (first | apply Kd.R_alloc | apply Kd.R_drewN | apply Kd.R_drew)); exact HO308.out) hb); have n3_ := Aside0.mk (Kd.R_below (by (with_reducible repeat (first | apply Kd.R_alloc | apply Kd.R_drewN | apply Kd.R_drew)); exact HO311.out) hb); have n4_ := Aside0.mk (blk_below (g := gb279) (o := .cells #[.int .i64 a1_0, .int .i64 a1_1, .bool a1_2, .int .i64 a1_3, .int .i64 a1_4] 23 (0, 0)) (by (with_reducible repeat (first | refine blk_drewN ?_ _ | refine blk_drew ?_ | refine blk_alloc ?_ _)); exact BK279.out) hb); have n5_ := Aside0.mk (blk_below (g := gb289) (o := .cells #[.int .i64 t283, .int .i64 t284, .bool t285, .int .i64 t286, .int .i64 t287] 23 (0, 0)) (by (with_reducible repeat (first | refine blk_drewN ?_ _ | refine blk_drew ?_ | refine blk_alloc ?_ _)); exact BK289.out) hb); have n6_ := Aside0.mk (blk_below (g := gb296) (o := .cells #[.int .i64 t290, .int .i64 t291, .bool t292, .int .i64 t293, .int .i64 t294] 23 (0, 0)) (by (with_reducible repeat (first | refine blk_drewN ?_ _ | refine blk_drew ?_ | refine blk_alloc ?_ _)); exact BK296.out) hb); have n7_ := Aside0.mk (blk_below (g := gb313) (o := .cells #[.int .i64 t301, .int .i64 t302, .bool t303, .int .i64 t304, .int .i64 t305] 23 (0, 0)) (by (with_reducible repeat (first | refine blk_drewN ?_ _ | refine blk_drew ?_ | refine blk_alloc ?_ _)); exact BK313.out) hb); have n8_ := Aside0.mk (below_step (by repeat (first | (with_reducible first | exact HB.out | apply below_alloc | apply pw_below_drewN | apply below_drew1 | refine below_set ?_ GE279.out | refine below_set ?_ GE289.out | refine below_set ?_ GE296.out | refine below_set ?_ GE313.out) | exact HB.out)) hb); have n9_ := Aside0.mk (hbox); have n10_ := Aside0.mk ((by rw [hg]; exact (below_size (by repeat (first | (with_reducible first | exact HB.out | apply below_alloc | apply pw_below_drewN | apply below_drew1 | refine below_set ?_ GE279.out | refine below_set ?_ GE289.out | refine below_set ?_ GE296.out | refine below_set ?_ GE313.out) | exact HB.out))) : w.heap.size ≤ gb321)); have n11_ := Aside0.mk ((by rw [hg]; exact (below_size (by repeat (first | (with_reducible first | exact HB.out | apply below_alloc | apply pw_below_drewN | apply below_drew1 | refine below_set ?_ GE279.out | refine below_set ?_ GE289.out | refine below_set ?_ GE296.out | refine below_set ?_ GE313.out) | exact HB.out))) : w.heap.size ≤ gb321)); have n12_ := Aside0.mk ((by rw [hg]; exact Nat.ne_of_lt (blk_lt (g := gb279) (o := .cells #[.int .i64 a1_0, .int .i64 a1_1, .bool a1_2, .int .i64 a1_3, .int .i64 a1_4] 23 (0, 0)) (by (with_reducible repeat (first | refine blk_drewN ?_ _ | refine blk_drew ?_ | refine blk_alloc ?_ _)); exact BK279.out)) : gb279 ≠ gb321)); have n13_ := Aside0.mk ((by rw [hg]; exact Nat.ne_of_gt (blk_lt (g := gb279) (o := .cells #[.int .i64 a1_0, .int .i64 a1_1, .bool a1_2, .int .i64 a1_3, .int .i64 a1_4] 23 (0, 0)) (by (with_reducible repeat (first | refine blk_drewN ?_ _ | refine blk_drew ?_ | refine blk_alloc ?_ _)); exact BK279.out)) : gb321 ≠ gb279)); have n14_ := Aside0.mk ((by rw [hg]; exact Nat.ne_of_lt (blk_lt (g := gb289) (o := .cells #[.int .i64 t283, .int .i64 t284, .bool t285, .int .i64 t286, .int .i64 t287] 23 (0, 0)) (by (with_reducible repeat (first | refine blk_drewN ?_ _ | refine blk_drew ?_ | refine blk_alloc ?_ _)); exact BK289.out)) : gb289 ≠ gb321)); have n15_ := Aside0.mk ((by rw [hg]; exact Nat.ne_of_gt (blk_lt (g := gb289) (o := .cells #[.int .i64 t283, .int .i64 t284, .bool t285, .int .i64 t286, .int .i64 t287] 23 (0, 0)) (by (with_reducible repeat (first | refine blk_drewN ?_ _ | refine blk_drew ?_ | refine blk_alloc ?_ _)); exact BK289.out)) : gb321 ≠ gb289)); have n16_ := Aside0.mk ((by rw [hg]; exact Nat.ne_of_lt (blk_lt (g := gb296) (o := .cells #[.int .i64 t290, .int .i64 t291, .bool t292, .int .i64 t293, .int .i64 t294] 23 (0, 0)) (by (with_reducible repeat (first | refine blk_drewN ?_ _ | refine blk_drew ?_ | refine blk_alloc ?_ _)); exact BK296.out)) : gb296 ≠ gb321)); have n17_ := Aside0.mk ((by rw [hg]; exact Nat.ne_of_gt (blk_lt (g := gb296) (o := .cells #[.int .i64 t290, .int .i64 t291, .bool t292, .int .i64 t293, .int .i64 t294] 23 (0, 0)) (by (with_reducible repeat (first | refine blk_drewN ?_ _ | refine blk_drew ?_ | refine blk_alloc ?_ _)); exact BK296.out)) : gb321 ≠ gb296)); have n18_ := Aside0.mk ((by rw [hg]; exact Nat.ne_of_lt (blk_lt (g := gb313) (o := .cells #[.int .i64 t301, .int .i64 t302, .bool t303, .int .i64 t304, .int .i64 t305] 23 (0, 0)) (by (with_reducible repeat (first | refine blk_drewN ?_ _ | refine blk_drew ?_ | refine blk_alloc ?_ _)); exact BK313.out)) : gb313 ≠ gb321)); have n19_ := Aside0.mk ((by rw [hg]; exact Nat.ne_of_gt (blk_lt (g := gb313) (o := .cells #[.int .i64 t301, .int .i64 t302, .bool t303, .int .i64 t304, .int .i64 t305] 23 (0, 0)) (by (with_reducible repeat (first | refine blk_drewN ?_ _ | refine blk_drew ?_ | refine blk_alloc ?_ _)); exact BK313.out)) : gb321 ≠ gb313)); clear HO282; clear HO299; clear HO308; clear HO311; clear BK279; clear BK289; clear BK296; clear BK313; clear HB; have HO282 := n0_; have HO299 := n1_; have HO308 := n2_; have HO311 := n3_; have BK279 := n4_; have BK289 := n5_; have BK296 := n6_; have BK313 := n7_; have HB := n8_; have BK321 := n9_; have GW321 := n10_; have GE321 := n11_; have NB279_321 := n12_; have NB321_279 := n13_; have NB289_321 := n14_; have NB321_289 := n15_; have NB296_321 := n16_; have NB321_296 := n17_; have NB313_321 := n18_; have NB321_313 := n19_; clear n0_ n1_ n2_ n3_ n4_ n5_ n6_ n7_ n8_ n9_ n10_ n11_ n12_ n13_ n14_ n15_ n16_ n17_ n18_ n19_; clear hb hbox hg; have hnb35 := NB321_279.out; have hnc35 := NB279_321.out; have hnb36 := NB321_289.out; have hnc36 := NB289_321.out; have hnb37 := NB321_296.out; have hnc37 := NB296_321.out; have hnb38 := NB321_313.out; have hnc38 := NB313_321.out; have hcz39_0 : w34.cell? ⟨gb321, 0, none⟩ = some (.int .i64 0) := (blk_cell BK321.out 0).trans rfl; have hcz39_1 : w34.cell? ⟨gb321, 1, none⟩ = some (.int .i64 0) := (blk_cell BK321.out 1).trans rfl; have hcz39_2 : w34.cell? ⟨gb321, 2, none⟩ = some (.bool false) := (blk_cell BK321.out 2).trans rfl; have hcz39_3 : w34.cell? ⟨gb321, 3, none⟩ = some (.int .i64 0) := (blk_cell BK321.out 3).trans rfl; have hcz39_4 : w34.cell? ⟨gb321, 4, none⟩ = some (.int .i64 0) := (blk_cell BK321.out 4).trans rfl; have hfz39_0 := blk_frozen BK321.out 0; have hfz39_1 := blk_frozen BK321.out 1; have hfz39_2 := blk_frozen BK321.out 2; have hfz39_3 := blk_frozen BK321.out 3; have hfz39_4 := blk_frozen BK321.out 4; have hcz40_0 : w34.cell? ⟨gb279, 0, none⟩ = some (.int .i64 a1_0) := (blk_cell BK279.out 0).trans rfl; have hcz40_1 : w34.cell? ⟨gb279, 1, none⟩ = some (.int .i64 a1_1) := (blk_cell BK279.out 1).trans rfl; have hcz40_2 : w34.cell? ⟨gb279, 2, none⟩ = some (.bool a1_2) := (blk_cell BK279.out 2).trans rfl; have hcz40_3 : w34.cell? ⟨gb279, 3, none⟩ = some (.int .i64 a1_3) := (blk_cell BK279.out 3).trans rfl; have hcz40_4 : w34.cell? ⟨gb279, 4, none⟩ = some (.int .i64 a1_4) := (blk_cell BK279.out 4).trans rfl; have hfz40_0 := blk_frozen BK279.out 0; have hfz40_1 := blk_frozen BK279.out 1; have hfz40_2 := blk_frozen BK279.out 2; have hfz40_3 := blk_frozen BK279.out 3; have hfz40_4 := blk_frozen BK279.out 4) | ((with_reducible refine gate_callee (f := 16) rfl ?_); refine goesL_ (some 57) rfl rfl Try.func16 (by kernel_rfl) rfl #[.agg #[.int .i64 a1_0, .int .i64 a1_1, .bool a1_2, .int .i64 a1_3, .int .i64 a1_4], .slice Ao15 t280.length co15] rfl (by (try simp only [List.map_toArray, List.map_cons, List.map_nil]); first | done | rfl | (simp only [List.length_drop, List.length_take]; rfl)) ?_; (with_reducible refine (tlv_Wrap.calls k a1_0 a1_1 a1_2 a1_3 a1_4 _ _ t280 t322 t325 _ ?side1 ?side2 A11.out).mono ?_); (case side1 => refine (Kd.R_reads' (e := 5) (base := w.heap.size) (ok := fun k_ => (((True ∧ some k_ ≠ (v298 : Value).ownBlock) ∧ some k_ ≠ (v307 : Value).ownBlock) ∧ some k_ ≠ (v310 : Value).ownBlock)) (n := t280.length) (c := co15) ?_).2.2; exact (by (with_reducible repeat (first | apply Kd.R_alloc | apply Kd.R_drewN | apply Kd.R_drew)); exact (Kd.R_mono (Kd.R_far (p := ⟨gb321, 4, none⟩) (Kd.R_far (p := ⟨gb321, 3, none⟩) (Kd.R_far (p := ⟨gb321, 2, none⟩) (Kd.R_far (p := ⟨gb321, 1, none⟩) (Kd.R_far (p := ⟨gb321, 0, none⟩) (Kd.R_types HO282.out BK321.out (by decide)) (fun _ hk => hk.2) (.int .i64 t314)) (fun _ hk => hk.2) (.int .i64 t315)) (fun _ hk => hk.2) (.bool t316)) (fun _ hk => hk.2) (.int .i64 t317)) (fun _ hk => hk.2) (.int .i64 t318)) (fun _ h_ => h_.1)))); (case side2 => exact (Kd.R_reads' HO282.out).2.1); rintro e w41 ⟨v323, rfl, ho0, hb⟩; refine ⟨_, rfl, ?_⟩; have n0_ := Aside0.mk (Kd.R_elder' (by (with_reducible repeat (first | apply Kd.R_alloc | apply Kd.R_drewN | apply Kd.R_drew)); exact (Kd.R_mono (Kd.R_far (p := ⟨gb321, 4, none⟩) (Kd.R_far (p := ⟨gb321, 3, none⟩) (Kd.R_far (p := ⟨gb321, 2, none⟩) (Kd.R_far (p := ⟨gb321, 1, none⟩) (Kd.R_far (p := ⟨gb321, 0, none⟩) (Kd.R_types HO282.out BK321.out (by decide)) (fun _ hk => hk.2) (.int .i64 t314)) (fun _ hk => hk.2) (.int .i64 t315)) (fun _ hk => hk.2) (.bool t316)) (fun _ hk => hk.2) (.int .i64 t317)) (fun _ hk => hk.2) (.int .i64 t318)) (fun _ h_ => h_.1))) (Kd.R_base ho0) hb); have n1_ := Aside0.mk (Kd.R_elder' (by (with_reducible repeat (first | apply Kd.R_alloc | apply Kd.R_drewN | apply Kd.R_drew)); exact (Kd.R_mono (Kd.R_far (p := ⟨gb321, 4, none⟩) (Kd.R_far (p := ⟨gb321, 3, none⟩) (Kd.R_far (p := ⟨gb321, 2, none⟩) (Kd.R_far (p := ⟨gb321, 1, none⟩) (Kd.R_far (p := ⟨gb321, 0, none⟩) (Kd.R_types HO299.out BK321.out (by decide)) (fun _ hk => hk.2) (.int .i64 t314)) (fun _ hk => hk.2) (.int .i64 t315)) (fun _ hk => hk.2) (.bool t316)) (fun _ hk => hk.2) (.int .i64 t317)) (fun _ hk => hk.2) (.int .i64 t318)) (fun _ h_ => h_.1))) (Kd.R_base ho0) hb); have n2_ := Aside0.mk (Kd.R_elder' (by (with_reducible repeat (first | apply Kd.R_alloc | apply Kd.R_drewN | apply Kd.R_drew)); exact (Kd.R_mono (Kd.R_far (p := ⟨gb321, 4, none⟩) (Kd.R_far (p := ⟨gb321, 3, none⟩) (Kd.R_far (p := ⟨gb321, 2, none⟩) (Kd.R_far (p := ⟨gb321, 1, none⟩) (Kd.R_far (p := ⟨gb321, 0, none⟩) (Kd.R_types HO308.out BK321.out (by decide)) (fun _ hk => hk.2) (.int .i64 t314)) (fun _ hk => hk.2) (.int .i64 t315)) (fun _ hk => hk.2) (.bool t316)) (fun _ hk => hk.2) (.int .i64 t317)) (fun _ hk => hk.2) (.int .i64 t318)) (fun _ h_ => h_.1))) (Kd.R_base ho0) hb); have n3_ := Aside0.mk (Kd.R_elder' (by (with_reducible repeat (first | apply Kd.R_alloc | apply Kd.R_drewN | apply Kd.R_drew)); exact (Kd.R_mono (Kd.R_far (p := ⟨gb321, 4, none⟩) (Kd.R_far (p := ⟨gb321, 3, none⟩) (Kd.R_far (p := ⟨gb321, 2, none⟩) (Kd.R_far (p := ⟨gb321, 1, none⟩) (Kd.R_far (p := ⟨gb321, 0, none⟩) (Kd.R_types HO311.out BK321.out (by decide)) (fun _ hk => hk.2) (.int .i64 t314)) (fun _ hk => hk.2) (.int .i64 t315)) (fun _ hk => hk.2) (.bool t316)) (fun _ hk => hk.2) (.int .i64 t317)) (fun _ hk => hk.2) (.int .i64 t318)) (fun _ h_ => h_.1))) (Kd.R_base ho0) hb); have n4_ := Aside0.mk (Kd.R_lower (Kd.R_new' (Kd.R_new' (Kd.R_new' (Kd.R_new' ho0 (Kd.R_lt (by (with_reducible repeat (first | apply Kd.R_alloc | apply Kd.R_drewN | apply Kd.R_drew)); exact (Kd.R_mono (Kd.R_far (p := ⟨gb321, 4, none⟩) (Kd.R_far (p := ⟨gb321, 3, none⟩) (Kd.R_far (p := ⟨gb321, 2, none⟩) (Kd.R_far (p := ⟨gb321, 1, none⟩) (Kd.R_far (p := ⟨gb321, 0, none⟩) (Kd.R_types HO282.out BK321.out (by decide)) (fun _ hk => hk.2) (.int .i64 t314)) (fun _ hk => hk.2) (.int .i64 t315)) (fun _ hk => hk.2) (.bool t316)) (fun _ hk => hk.2) (.int .i64 t317)) (fun _ hk => hk.2) (.int .i64 t318)) (fun _ h_ => h_.1))))) (Kd.R_lt (by (with_reducible repeat (first | apply Kd.R_alloc | apply Kd.R_drewN | apply Kd.R_drew)); exact (Kd.R_mono (Kd.R_far (p := ⟨gb321, 4, none⟩) (Kd.R_far (p := ⟨gb321, 3, none⟩) (Kd.R_far (p := ⟨gb321, 2, none⟩) (Kd.R_far (p := ⟨gb321, 1, none⟩) (Kd.R_far (p := ⟨gb321, 0, none⟩) (Kd.R_types HO299.out BK321.out (by decide)) (fun _ hk => hk.2) (.int .i64 t314)) (fun _ hk => hk.2) (.int .i64 t315)) (fun _ hk => hk.2) (.bool t316)) (fun _ hk => hk.2) (.int .i64 t317)) (fun _ hk => hk.2) (.int .i64 t318)) (fun _ h_ => h_.1))))) (Kd.R_lt (by (with_reducible repeat (first | apply Kd.R_alloc | apply Kd.R_drewN | apply Kd.R_drew)); exact (Kd.R_mono (Kd.R_far (p := ⟨gb321, 4, none⟩) (Kd.R_far (p := ⟨gb321, 3, none⟩) (Kd.R_far (p := ⟨gb321, 2, none⟩) (Kd.R_far (p := ⟨gb321, 1, none⟩) (Kd.R_far (p := ⟨gb321, 0, none⟩) (Kd.R_types HO308.out BK321.out (by decide)) (fun _ hk => hk.2) (.int .i64 t314)) (fun _ hk => hk.2) (.int .i64 t315)) (fun _ hk => hk.2) (.bool t316)) (fun _ hk => hk.2) (.int .i64 t317)) (fun _ hk => hk.2) (.int .i64 t318)) (fun _ h_ => h_.1))))) (Kd.R_lt (by (with_reducible repeat (first | apply Kd.R_alloc | apply Kd.R_drewN | apply Kd.R_drew)); exact (Kd.R_mono (Kd.R_far (p := ⟨gb321, 4, none⟩) (Kd.R_far (p := ⟨gb321, 3, none⟩) (Kd.R_far (p := ⟨gb321, 2, none⟩) (Kd.R_far (p := ⟨gb321, 1, none⟩) (Kd.R_far (p := ⟨gb321, 0, none⟩) (Kd.R_types HO311.out BK321.out (by decide)) (fun _ hk => hk.2) (.int .i64 t314)) (fun _ hk => hk.2) (.int .i64 t315)) (fun _ hk => hk.2) (.bool t316)) (fun _ hk => hk.2) (.int .i64 t317)) (fun _ hk => hk.2) (.int .i64 t318)) (fun _ h_ => h_.1))))) (below_size (by repeat (first | (with_reducible first | exact HB.out | apply below_alloc | apply pw_below_drewN | apply below_drew1 | refine below_set ?_ GE279.out | refine below_set ?_ GE289.out | refine below_set ?_ GE296.out | refine below_set ?_ GE313.out | refine below_set ?_ GE321.out) | exact HB.out)))); have n5_ := Aside0.mk (blk_below (g := gb279) (o := .cells #[.int .i64 a1_0, .int .i64 a1_1, .bool a1_2, .int .i64 a1_3, .int .i64 a1_4] 23 (0, 0)) (by (with_reducible repeat (first | refine blk_drewN ?_ _ | refine blk_drew ?_ | refine blk_alloc ?_ _)); refine blk_far ?_ NB279_321.out _; (with_reducible repeat (first | refine blk_drewN ?_ _ | refine blk_drew ?_ | refine blk_alloc ?_ _)); refine blk_far ?_ NB279_321.out _; (with_reducible repeat (first | refine blk_drewN ?_ _ | refine blk_drew ?_ | refine blk_alloc ?_ _)); refine blk_far ?_ NB279_321.out _; (with_reducible repeat (first | refine blk_drewN ?_ _ | refine blk_drew ?_ | refine blk_alloc ?_ _)); refine blk_far ?_ NB279_321.out _; (with_reducible repeat (first | refine blk_drewN ?_ _ | refine blk_drew ?_ | refine blk_alloc ?_ _)); refine blk_far ?_ NB279_321.out _; (with_reducible repeat (first | refine blk_drewN ?_ _ | refine blk_drew ?_ | refine blk_alloc ?_ _)); exact BK279.out) hb); have n6_ := Aside0.mk (blk_below (g := gb289) (o := .cells #[.int .i64 t283, .int .i64 t284, .bool t285, .int .i64 t286, .int .i64 t287] 23 (0, 0)) (by (with_reducible repeat (first | refine blk_drewN ?_ _ | refine blk_drew ?_ | refine blk_alloc ?_ _)); refine blk_far ?_ NB289_321.out _; (with_reducible repeat (first | refine blk_drewN ?_ _ | refine blk_drew ?_ | refine blk_alloc ?_ _)); refine blk_far ?_ NB289_321.out _; (with_reducible repeat (first | refine blk_drewN ?_ _ | refine blk_drew ?_ | refine blk_alloc ?_ _)); refine blk_far ?_ NB289_321.out _; (with_reducible repeat (first | refine blk_drewN ?_ _ | refine blk_drew ?_ | refine blk_alloc ?_ _)); refine blk_far ?_ NB289_321.out _; (with_reducible repeat (first | refine blk_drewN ?_ _ | refine blk_drew ?_ | refine blk_alloc ?_ _)); refine blk_far ?_ NB289_321.out _; (with_reducible repeat (first | refine blk_drewN ?_ _ | refine blk_drew ?_ | refine blk_alloc ?_ _)); exact BK289.out) hb); have n7_ := Aside0.mk (blk_below (g := gb296) (o := .cells #[.int .i64 t290, .int .i64 t291, .bool t292, .int .i64 t293, .int .i64 t294] 23 (0, 0)) (by (with_reducible repeat (first | refine blk_drewN ?_ _ | refine blk_drew ?_ | refine blk_alloc ?_ _)); refine blk_far ?_ NB296_321.out _; (with_reducible repeat (first | refine blk_drewN ?_ _ | refine blk_drew ?_ | refine blk_alloc ?_ _)); refine blk_far ?_ NB296_321.out _; (with_reducible repeat (first | refine blk_drewN ?_ _ | refine blk_drew ?_ | refine blk_alloc ?_ _)); refine blk_far ?_ NB296_321.out _; (with_reducible repeat (first | refine blk_drewN ?_ _ | refine blk_drew ?_ | refine blk_alloc ?_ _)); refine blk_far ?_ NB296_321.out _; (with_reducible repeat (first | refine blk_drewN ?_ _ | refine blk_drew ?_ | refine blk_alloc ?_ _)); refine blk_far ?_ NB296_321.out _; (with_reducible repeat (first | refine blk_drewN ?_ _ | refine blk_drew ?_ | refine blk_alloc ?_ _)); exact BK296.out) hb); have n8_ := Aside0.mk (blk_below (g := gb313) (o := .cells #[.int .i64 t301, .int .i64 t302, .bool t303, .int .i64 t304, .int .i64 t305] 23 (0, 0)) (by (with_reducible repeat (first | refine blk_drewN ?_ _ | refine blk_drew ?_ | refine blk_alloc ?_ _)); refine blk_far ?_ NB313_321.out _; (with_reducible repeat (first | refine blk_drewN ?_ _ | refine blk_drew ?_ | refine blk_alloc ?_ _)); refine blk_far ?_ NB313_321.out _; (with_reducible repeat (first | refine blk_drewN ?_ _ | refine blk_drew ?_ | refine blk_alloc ?_ _)); refine blk_far ?_ NB313_321.out _; (with_reducible repeat (first | refine blk_drewN ?_ _ | refine blk_drew ?_ | refine blk_alloc ?_ _)); refine blk_far ?_ NB313_321.out _; (with_reducible repeat (first | refine blk_drewN ?_ _ | refine blk_drew ?_ | refine blk_alloc ?_ _)); refine blk_far ?_ NB313_321.out _; (with_reducible repeat (first | refine blk_drewN ?_ _ | refine blk_drew ?_ | refine blk_alloc ?_ _)); exact BK313.out) hb); have n9_ := Aside0.mk (blk_below (g := gb321) (o := .cells #[.int .i64 t314, .int .i64 t315, .bool t316, .int .i64 t317, .int .i64 t318] 23 (0, 0)) (by (with_reducible repeat (first | refine blk_drewN ?_ _ | refine blk_drew ?_ | refine blk_alloc ?_ _)); refine blk_put (cs := #[.int .i64 t314, .int .i64 t315, .bool t316, .int .i64 t317, .int .i64 0]) ?_ 4 _ rfl; (with_reducible repeat (first | refine blk_drewN ?_ _ | refine blk_drew ?_ | refine blk_alloc ?_ _)); refine blk_put (cs := #[.int .i64 t314, .int .i64 t315, .bool t316, .int .i64 0, .int .i64 0]) ?_ 3 _ rfl; (with_reducible repeat (first | refine blk_drewN ?_ _ | refine blk_drew ?_ | refine blk_alloc ?_ _)); refine blk_put (cs := #[.int .i64 t314, .int .i64 t315, .bool false, .int .i64 0, .int .i64 0]) ?_ 2 _ rfl; (with_reducible repeat (first | refine blk_drewN ?_ _ | refine blk_drew ?_ | refine blk_alloc ?_ _)); refine blk_put (cs := #[.int .i64 t314, .int .i64 0, .bool false, .int .i64 0, .int .i64 0]) ?_ 1 _ rfl; (with_reducible repeat (first | refine blk_drewN ?_ _ | refine blk_drew ?_ | refine blk_alloc ?_ _)); refine blk_put (cs := #[.int .i64 0, .int .i64 0, .bool false, .int .i64 0, .int .i64 0]) ?_ 0 _ rfl; (with_reducible repeat (first | refine blk_drewN ?_ _ | refine blk_drew ?_ | refine blk_alloc ?_ _)); exact BK321.out) hb); have n10_ := Aside0.mk (below_step (by repeat (first | (with_reducible first | exact HB.out | apply below_alloc | apply pw_below_drewN | apply below_drew1 | refine below_set ?_ GE279.out | refine below_set ?_ GE289.out | refine below_set ?_ GE296.out | refine below_set ?_ GE313.out | refine below_set ?_ GE321.out) | exact HB.out)) hb); clear HO282; clear HO299; clear HO308; clear HO311; clear BK279; clear BK289; clear BK296; clear BK313; clear BK321; clear HB; have HO282 := n0_; have HO299 := n1_; have HO308 := n2_; have HO311 := n3_; have HO324 := n4_; have BK279 := n5_; have BK289 := n6_; have BK296 := n7_; have BK313 := n8_; have BK321 := n9_; have HB := n10_; clear n0_ n1_ n2_ n3_ n4_ n5_ n6_ n7_ n8_ n9_ n10_; (try clear hb); (try clear hb2); (try clear hk); (try clear hi); (try clear ho0)))
    (try simp only [Act.put, List.setIfInBounds_toArray, List.set_cons_zero, List.set_cons_succ])
    go_cut [83] (fun v83 wc => ∃ (kq : Nat) (x83_11 : Bool), v83 = .bool x83_11 ∧ Aside0 (sobriquetlaw01_TlvExact.j0 kq l0 t297 t300 t306 t309 t319 t320 t322 t325 x83_11 a1_0 a1_1 a1_2 a1_3 a1_4 t314 t315 t316 t317 t318 = some r) ∧ Aside0 (kq ≤ k) ∧ Aside0 (Kd.R (Kd.int .u8) 5 wc w.heap.size (fun k_ => some k_ ≠ (v307 : Value).ownBlock ∧ some k_ ≠ (v310 : Value).ownBlock ∧ some k_ ≠ (v323 : Value).ownBlock) v298 t297) ∧ Aside0 (Kd.R (Kd.int .u8) 5 wc w.heap.size (fun k_ => some k_ ≠ (v298 : Value).ownBlock ∧ some k_ ≠ (v310 : Value).ownBlock ∧ some k_ ≠ (v323 : Value).ownBlock) v307 t306) ∧ Aside0 (Kd.R (Kd.int .u8) 5 wc w.heap.size (fun k_ => some k_ ≠ (v298 : Value).ownBlock ∧ some k_ ≠ (v307 : Value).ownBlock ∧ some k_ ≠ (v323 : Value).ownBlock) v310 t309) ∧ Aside0 (Kd.R (Kd.int .u8) 5 wc w.heap.size (fun k_ => some k_ ≠ (v298 : Value).ownBlock ∧ some k_ ≠ (v307 : Value).ownBlock ∧ some k_ ≠ (v310 : Value).ownBlock) v323 t322) ∧ Aside0 (wc.heap[gb279]? = some (.cells #[.int .i64 a1_0, .int .i64 a1_1, .bool a1_2, .int .i64 a1_3, .int .i64 a1_4] 23 (0, 0))) ∧ Aside0 (wc.heap[gb289]? = some (.cells #[.int .i64 t283, .int .i64 t284, .bool t285, .int .i64 t286, .int .i64 t287] 23 (0, 0))) ∧ Aside0 (wc.heap[gb296]? = some (.cells #[.int .i64 t290, .int .i64 t291, .bool t292, .int .i64 t293, .int .i64 t294] 23 (0, 0))) ∧ Aside0 (wc.heap[gb313]? = some (.cells #[.int .i64 t301, .int .i64 t302, .bool t303, .int .i64 t304, .int .i64 t305] 23 (0, 0))) ∧ Aside0 (wc.heap[gb321]? = some (.cells #[.int .i64 t314, .int .i64 t315, .bool t316, .int .i64 t317, .int .i64 t318] 23 (0, 0))) ∧ Aside0 (Below w.heap.size w wc))
    case first =>
      have H := HC12.out
      clear HC12
      by_cases c42 : (!(t283 == t290) || (!(t284 == t291) || (!(t285 == t292) || (!(t286 == t293) || (!(t287 == t294)))))) = true
      · rw [if_pos c42] at H
        have c42b0 : (!(t283 == t290) || (!(t284 == t291) || (!(t285 == t292) || (!(t286 == t293) || (!(t287 == t294)))))) = true := c42
        clear c42
        (first | rw [c42b0] | (simp only [i64_w, i32_w]; rw [c42b0]) | skip)
        have H' := Aside0.mk H
        clear H
        have hnb43 := NB289_279.out
        have hnc43 := NB279_289.out
        have hnb44 := NB289_296.out
        have hnc44 := NB296_289.out
        have hnb45 := NB289_313.out
        have hnc45 := NB313_289.out
        have hnb46 := NB289_321.out
        have hnc46 := NB321_289.out
        have hcz47_0 : w41.cell? ⟨gb289, 0, none⟩ = some (.int .i64 t283) := (blk_cell BK289.out 0).trans rfl
        have hcz47_1 : w41.cell? ⟨gb289, 1, none⟩ = some (.int .i64 t284) := (blk_cell BK289.out 1).trans rfl
        have hcz47_2 : w41.cell? ⟨gb289, 2, none⟩ = some (.bool t285) := (blk_cell BK289.out 2).trans rfl
        have hcz47_3 : w41.cell? ⟨gb289, 3, none⟩ = some (.int .i64 t286) := (blk_cell BK289.out 3).trans rfl
        have hcz47_4 : w41.cell? ⟨gb289, 4, none⟩ = some (.int .i64 t287) := (blk_cell BK289.out 4).trans rfl
        have hfz47_0 := blk_frozen BK289.out 0
        have hfz47_1 := blk_frozen BK289.out 1
        have hfz47_2 := blk_frozen BK289.out 2
        have hfz47_3 := blk_frozen BK289.out 3
        have hfz47_4 := blk_frozen BK289.out 4
        have hnb48 := NB296_279.out
        have hnc48 := NB279_296.out
        have hnb49 := NB296_313.out
        have hnc49 := NB313_296.out
        have hnb50 := NB296_321.out
        have hnc50 := NB321_296.out
        have hcz51_0 : w41.cell? ⟨gb296, 0, none⟩ = some (.int .i64 t290) := (blk_cell BK296.out 0).trans rfl
        have hcz51_1 : w41.cell? ⟨gb296, 1, none⟩ = some (.int .i64 t291) := (blk_cell BK296.out 1).trans rfl
        have hcz51_2 : w41.cell? ⟨gb296, 2, none⟩ = some (.bool t292) := (blk_cell BK296.out 2).trans rfl
        have hcz51_3 : w41.cell? ⟨gb296, 3, none⟩ = some (.int .i64 t293) := (blk_cell BK296.out 3).trans rfl
        have hcz51_4 : w41.cell? ⟨gb296, 4, none⟩ = some (.int .i64 t294) := (blk_cell BK296.out 4).trans rfl
        have hfz51_0 := blk_frozen BK296.out 0
        have hfz51_1 := blk_frozen BK296.out 1
        have hfz51_2 := blk_frozen BK296.out 2
        have hfz51_3 := blk_frozen BK296.out 3
        have hfz51_4 := blk_frozen BK296.out 4
        go_wp2
        go_meet
        case rel => exact ⟨_, (true), (by first | rfl | (simp; done) | (simp [*]; done)), H', ⟨by first | omega | exact Nat.le_refl _⟩, ⟨by (with_reducible repeat (first | apply Kd.R_alloc | apply Kd.R_drewN | apply Kd.R_drew)); exact Kd.R_mono HO299.out (fun _ hk => ⟨hk.1.1.2, ⟨hk.1.2, hk.2⟩⟩)⟩, ⟨by (with_reducible repeat (first | apply Kd.R_alloc | apply Kd.R_drewN | apply Kd.R_drew)); exact Kd.R_mono HO308.out (fun _ hk => ⟨hk.1.2, ⟨hk.1.1.1, hk.2⟩⟩)⟩, ⟨by (with_reducible repeat (first | apply Kd.R_alloc | apply Kd.R_drewN | apply Kd.R_drew)); exact Kd.R_mono HO311.out (fun _ hk => ⟨hk.1.2, ⟨hk.1.1.1, hk.2⟩⟩)⟩, ⟨by (with_reducible repeat (first | apply Kd.R_alloc | apply Kd.R_drewN | apply Kd.R_drew)); exact Kd.R_mono HO324.out (fun _ hk => ⟨hk.1.1.2, ⟨hk.1.2, hk.2⟩⟩)⟩, ⟨by (with_reducible repeat (first | refine blk_drewN ?_ _ | refine blk_drew ?_ | refine blk_alloc ?_ _)); exact BK279.out⟩, ⟨by (with_reducible repeat (first | refine blk_drewN ?_ _ | refine blk_drew ?_ | refine blk_alloc ?_ _)); exact BK289.out⟩, ⟨by (with_reducible repeat (first | refine blk_drewN ?_ _ | refine blk_drew ?_ | refine blk_alloc ?_ _)); exact BK296.out⟩, ⟨by (with_reducible repeat (first | refine blk_drewN ?_ _ | refine blk_drew ?_ | refine blk_alloc ?_ _)); exact BK313.out⟩, ⟨by (with_reducible repeat (first | refine blk_drewN ?_ _ | refine blk_drew ?_ | refine blk_alloc ?_ _)); exact BK321.out⟩, ⟨by repeat (first | (with_reducible first | exact HB.out | apply below_alloc | apply pw_below_drewN | apply below_drew1 | refine below_set ?_ GE279.out | refine below_set ?_ GE289.out | refine below_set ?_ GE296.out | refine below_set ?_ GE313.out | refine below_set ?_ GE321.out) | exact HB.out)⟩⟩
      · rw [if_neg c42] at H
        have c42b0 : (!(t283 == t290) || (!(t284 == t291) || (!(t285 == t292) || (!(t286 == t293) || (!(t287 == t294)))))) = false := by simpa using c42
        clear c42
        (first | rw [c42b0] | (simp only [i64_w, i32_w]; rw [c42b0]) | skip)
        by_cases c52 : t288 = t295
        · rw [if_pos c52] at H
          have c52b0 : (t288 == t295) = true := beq_iff_eq.mpr c52
          have c52b1 : (t288 != t295) = false := bne_eq_false_iff_eq.mpr c52
          clear c52
          by_cases c53 : (!(t301 == t314) || (!(t302 == t315) || (!(t303 == t316) || (!(t304 == t317) || (!(t305 == t318)))))) = true
          · rw [if_pos c53] at H
            have c53b0 : (!(t301 == t314) || (!(t302 == t315) || (!(t303 == t316) || (!(t304 == t317) || (!(t305 == t318)))))) = true := c53
            clear c53
            have H' := Aside0.mk H
            clear H
            have hnb54 := NB289_279.out
            have hnc54 := NB279_289.out
            have hnb55 := NB289_296.out
            have hnc55 := NB296_289.out
            have hnb56 := NB289_313.out
            have hnc56 := NB313_289.out
            have hnb57 := NB289_321.out
            have hnc57 := NB321_289.out
            have hcz58_0 : w41.cell? ⟨gb289, 0, none⟩ = some (.int .i64 t283) := (blk_cell BK289.out 0).trans rfl
            have hcz58_1 : w41.cell? ⟨gb289, 1, none⟩ = some (.int .i64 t284) := (blk_cell BK289.out 1).trans rfl
            have hcz58_2 : w41.cell? ⟨gb289, 2, none⟩ = some (.bool t285) := (blk_cell BK289.out 2).trans rfl
            have hcz58_3 : w41.cell? ⟨gb289, 3, none⟩ = some (.int .i64 t286) := (blk_cell BK289.out 3).trans rfl
            have hcz58_4 : w41.cell? ⟨gb289, 4, none⟩ = some (.int .i64 t287) := (blk_cell BK289.out 4).trans rfl
            have hfz58_0 := blk_frozen BK289.out 0
            have hfz58_1 := blk_frozen BK289.out 1
            have hfz58_2 := blk_frozen BK289.out 2
            have hfz58_3 := blk_frozen BK289.out 3
            have hfz58_4 := blk_frozen BK289.out 4
            have hnb59 := NB296_279.out
            have hnc59 := NB279_296.out
            have hnb60 := NB296_313.out
            have hnc60 := NB313_296.out
            have hnb61 := NB296_321.out
            have hnc61 := NB321_296.out
            have hcz62_0 : w41.cell? ⟨gb296, 0, none⟩ = some (.int .i64 t290) := (blk_cell BK296.out 0).trans rfl
            have hcz62_1 : w41.cell? ⟨gb296, 1, none⟩ = some (.int .i64 t291) := (blk_cell BK296.out 1).trans rfl
            have hcz62_2 : w41.cell? ⟨gb296, 2, none⟩ = some (.bool t292) := (blk_cell BK296.out 2).trans rfl
            have hcz62_3 : w41.cell? ⟨gb296, 3, none⟩ = some (.int .i64 t293) := (blk_cell BK296.out 3).trans rfl
            have hcz62_4 : w41.cell? ⟨gb296, 4, none⟩ = some (.int .i64 t294) := (blk_cell BK296.out 4).trans rfl
            have hfz62_0 := blk_frozen BK296.out 0
            have hfz62_1 := blk_frozen BK296.out 1
            have hfz62_2 := blk_frozen BK296.out 2
            have hfz62_3 := blk_frozen BK296.out 3
            have hfz62_4 := blk_frozen BK296.out 4
            have hnb63 := NB313_279.out
            have hnc63 := NB279_313.out
            have hnb64 := NB313_321.out
            have hnc64 := NB321_313.out
            have hcz65_0 : w41.cell? ⟨gb313, 0, none⟩ = some (.int .i64 t301) := (blk_cell BK313.out 0).trans rfl
            have hcz65_1 : w41.cell? ⟨gb313, 1, none⟩ = some (.int .i64 t302) := (blk_cell BK313.out 1).trans rfl
            have hcz65_2 : w41.cell? ⟨gb313, 2, none⟩ = some (.bool t303) := (blk_cell BK313.out 2).trans rfl
            have hcz65_3 : w41.cell? ⟨gb313, 3, none⟩ = some (.int .i64 t304) := (blk_cell BK313.out 3).trans rfl
            have hcz65_4 : w41.cell? ⟨gb313, 4, none⟩ = some (.int .i64 t305) := (blk_cell BK313.out 4).trans rfl
            have hfz65_0 := blk_frozen BK313.out 0
            have hfz65_1 := blk_frozen BK313.out 1
            have hfz65_2 := blk_frozen BK313.out 2
            have hfz65_3 := blk_frozen BK313.out 3
            have hfz65_4 := blk_frozen BK313.out 4
            have hnb66 := NB321_279.out
            have hnc66 := NB279_321.out
            have hcz67_0 : w41.cell? ⟨gb321, 0, none⟩ = some (.int .i64 t314) := (blk_cell BK321.out 0).trans rfl
            have hcz67_1 : w41.cell? ⟨gb321, 1, none⟩ = some (.int .i64 t315) := (blk_cell BK321.out 1).trans rfl
            have hcz67_2 : w41.cell? ⟨gb321, 2, none⟩ = some (.bool t316) := (blk_cell BK321.out 2).trans rfl
            have hcz67_3 : w41.cell? ⟨gb321, 3, none⟩ = some (.int .i64 t317) := (blk_cell BK321.out 3).trans rfl
            have hcz67_4 : w41.cell? ⟨gb321, 4, none⟩ = some (.int .i64 t318) := (blk_cell BK321.out 4).trans rfl
            have hfz67_0 := blk_frozen BK321.out 0
            have hfz67_1 := blk_frozen BK321.out 1
            have hfz67_2 := blk_frozen BK321.out 2
            have hfz67_3 := blk_frozen BK321.out 3
            have hfz67_4 := blk_frozen BK321.out 4
            go_wp2
            go_meet
            case rel => exact ⟨_, (true), (by first | rfl | (simp; done) | (simp [*]; done)), H', ⟨by first | omega | exact Nat.le_refl _⟩, ⟨by (with_reducible repeat (first | apply Kd.R_alloc | apply Kd.R_drewN | apply Kd.R_drew)); exact Kd.R_mono HO299.out (fun _ hk => ⟨hk.1.1.2, ⟨hk.1.2, hk.2⟩⟩)⟩, ⟨by (with_reducible repeat (first | apply Kd.R_alloc | apply Kd.R_drewN | apply Kd.R_drew)); exact Kd.R_mono HO308.out (fun _ hk => ⟨hk.1.2, ⟨hk.1.1.1, hk.2⟩⟩)⟩, ⟨by (with_reducible repeat (first | apply Kd.R_alloc | apply Kd.R_drewN | apply Kd.R_drew)); exact Kd.R_mono HO311.out (fun _ hk => ⟨hk.1.2, ⟨hk.1.1.1, hk.2⟩⟩)⟩, ⟨by (with_reducible repeat (first | apply Kd.R_alloc | apply Kd.R_drewN | apply Kd.R_drew)); exact Kd.R_mono HO324.out (fun _ hk => ⟨hk.1.1.2, ⟨hk.1.2, hk.2⟩⟩)⟩, ⟨by (with_reducible repeat (first | refine blk_drewN ?_ _ | refine blk_drew ?_ | refine blk_alloc ?_ _)); exact BK279.out⟩, ⟨by (with_reducible repeat (first | refine blk_drewN ?_ _ | refine blk_drew ?_ | refine blk_alloc ?_ _)); exact BK289.out⟩, ⟨by (with_reducible repeat (first | refine blk_drewN ?_ _ | refine blk_drew ?_ | refine blk_alloc ?_ _)); exact BK296.out⟩, ⟨by (with_reducible repeat (first | refine blk_drewN ?_ _ | refine blk_drew ?_ | refine blk_alloc ?_ _)); exact BK313.out⟩, ⟨by (with_reducible repeat (first | refine blk_drewN ?_ _ | refine blk_drew ?_ | refine blk_alloc ?_ _)); exact BK321.out⟩, ⟨by repeat (first | (with_reducible first | exact HB.out | apply below_alloc | apply pw_below_drewN | apply below_drew1 | refine below_set ?_ GE279.out | refine below_set ?_ GE289.out | refine below_set ?_ GE296.out | refine below_set ?_ GE313.out | refine below_set ?_ GE321.out) | exact HB.out)⟩⟩
          · rw [if_neg c53] at H
            have c53b0 : (!(t301 == t314) || (!(t302 == t315) || (!(t303 == t316) || (!(t304 == t317) || (!(t305 == t318)))))) = false := by simpa using c53
            clear c53
            by_cases c68 : t312 = t320
            · rw [if_pos c68] at H
              have c68b0 : (t312 == t320) = true := beq_iff_eq.mpr c68
              have c68b1 : (t312 != t320) = false := bne_eq_false_iff_eq.mpr c68
              clear c68
              replace H := Option.bind_eq_some_iff.mp H
              obtain ⟨t326, A690, H⟩ := H
              replace H : (sobriquetlaw01_TlvExact.j0 k l0 t297 t300 t306 t309 t319 t320 t322 t325 (!t326) a1_0 a1_1 a1_2 a1_3 a1_4 t314 t315 t316 t317 t318) = some r := H
              have A69 := Aside0.mk A690
              clear A690
              have H' := Aside0.mk H
              clear H
              have hnb70 := NB289_279.out
              have hnc70 := NB279_289.out
              have hnb71 := NB289_296.out
              have hnc71 := NB296_289.out
              have hnb72 := NB289_313.out
              have hnc72 := NB313_289.out
              have hnb73 := NB289_321.out
              have hnc73 := NB321_289.out
              have hcz74_0 : w41.cell? ⟨gb289, 0, none⟩ = some (.int .i64 t283) := (blk_cell BK289.out 0).trans rfl
              have hcz74_1 : w41.cell? ⟨gb289, 1, none⟩ = some (.int .i64 t284) := (blk_cell BK289.out 1).trans rfl
              have hcz74_2 : w41.cell? ⟨gb289, 2, none⟩ = some (.bool t285) := (blk_cell BK289.out 2).trans rfl
              have hcz74_3 : w41.cell? ⟨gb289, 3, none⟩ = some (.int .i64 t286) := (blk_cell BK289.out 3).trans rfl
              have hcz74_4 : w41.cell? ⟨gb289, 4, none⟩ = some (.int .i64 t287) := (blk_cell BK289.out 4).trans rfl
              have hfz74_0 := blk_frozen BK289.out 0
              have hfz74_1 := blk_frozen BK289.out 1
              have hfz74_2 := blk_frozen BK289.out 2
              have hfz74_3 := blk_frozen BK289.out 3
              have hfz74_4 := blk_frozen BK289.out 4
              have hnb75 := NB296_279.out
              have hnc75 := NB279_296.out
              have hnb76 := NB296_313.out
              have hnc76 := NB313_296.out
              have hnb77 := NB296_321.out
              have hnc77 := NB321_296.out
              have hcz78_0 : w41.cell? ⟨gb296, 0, none⟩ = some (.int .i64 t290) := (blk_cell BK296.out 0).trans rfl
              have hcz78_1 : w41.cell? ⟨gb296, 1, none⟩ = some (.int .i64 t291) := (blk_cell BK296.out 1).trans rfl
              have hcz78_2 : w41.cell? ⟨gb296, 2, none⟩ = some (.bool t292) := (blk_cell BK296.out 2).trans rfl
              have hcz78_3 : w41.cell? ⟨gb296, 3, none⟩ = some (.int .i64 t293) := (blk_cell BK296.out 3).trans rfl
              have hcz78_4 : w41.cell? ⟨gb296, 4, none⟩ = some (.int .i64 t294) := (blk_cell BK296.out 4).trans rfl
              have hfz78_0 := blk_frozen BK296.out 0
              have hfz78_1 := blk_frozen BK296.out 1
              have hfz78_2 := blk_frozen BK296.out 2
              have hfz78_3 := blk_frozen BK296.out 3
              have hfz78_4 := blk_frozen BK296.out 4
              have hnb79 := NB313_279.out
              have hnc79 := NB279_313.out
              have hnb80 := NB313_321.out
              have hnc80 := NB321_313.out
              have hcz81_0 : w41.cell? ⟨gb313, 0, none⟩ = some (.int .i64 t301) := (blk_cell BK313.out 0).trans rfl
              have hcz81_1 : w41.cell? ⟨gb313, 1, none⟩ = some (.int .i64 t302) := (blk_cell BK313.out 1).trans rfl
              have hcz81_2 : w41.cell? ⟨gb313, 2, none⟩ = some (.bool t303) := (blk_cell BK313.out 2).trans rfl
              have hcz81_3 : w41.cell? ⟨gb313, 3, none⟩ = some (.int .i64 t304) := (blk_cell BK313.out 3).trans rfl
              have hcz81_4 : w41.cell? ⟨gb313, 4, none⟩ = some (.int .i64 t305) := (blk_cell BK313.out 4).trans rfl
              have hfz81_0 := blk_frozen BK313.out 0
              have hfz81_1 := blk_frozen BK313.out 1
              have hfz81_2 := blk_frozen BK313.out 2
              have hfz81_3 := blk_frozen BK313.out 3
              have hfz81_4 := blk_frozen BK313.out 4
              have hnb82 := NB321_279.out
              have hnc82 := NB279_321.out
              have hcz83_0 : w41.cell? ⟨gb321, 0, none⟩ = some (.int .i64 t314) := (blk_cell BK321.out 0).trans rfl
              have hcz83_1 : w41.cell? ⟨gb321, 1, none⟩ = some (.int .i64 t315) := (blk_cell BK321.out 1).trans rfl
              have hcz83_2 : w41.cell? ⟨gb321, 2, none⟩ = some (.bool t316) := (blk_cell BK321.out 2).trans rfl
              have hcz83_3 : w41.cell? ⟨gb321, 3, none⟩ = some (.int .i64 t317) := (blk_cell BK321.out 3).trans rfl
              have hcz83_4 : w41.cell? ⟨gb321, 4, none⟩ = some (.int .i64 t318) := (blk_cell BK321.out 4).trans rfl
              have hfz83_0 := blk_frozen BK321.out 0
              have hfz83_1 := blk_frozen BK321.out 1
              have hfz83_2 := blk_frozen BK321.out 2
              have hfz83_3 := blk_frozen BK321.out 3
              have hfz83_4 := blk_frozen BK321.out 4
              go_wp2_with (first | (go_at_call 12; (with_reducible refine (sobriquetkeep_Bytes.calls k _ _ t280 _ _ l0 t326 _ ?side1 ?side2 ?side3 ?side4 A69.out).mono ?_); (case side1 => repeat (first | exact (Kd.R_reads' HO282.out).2.2 | (with_reducible refine Kd.C_alloc ?_ _) | (with_reducible refine Kd.C_drewN ?_ _) | (with_reducible refine Kd.C_drew ?_))); (case side2 => exact (Kd.R_reads' HO282.out).2.1); (case side3 => repeat (first | exact (Kd.C_below HR0.out HB.out) | (with_reducible refine Kd.C_alloc ?_ _) | (with_reducible refine Kd.C_drewN ?_ _) | (with_reducible refine Kd.C_drew ?_))); (case side4 => exact HC0.out); rintro e w' ⟨rfl, ⟨nd, rfl⟩⟩))
              go_meet
              case rel => exact ⟨_, (!t326), (by first | rfl | (simp; done) | (simp [*]; done)), H', ⟨by first | omega | exact Nat.le_refl _⟩, ⟨by (with_reducible repeat (first | apply Kd.R_alloc | apply Kd.R_drewN | apply Kd.R_drew)); exact Kd.R_mono HO299.out (fun _ hk => ⟨hk.1.1.2, ⟨hk.1.2, hk.2⟩⟩)⟩, ⟨by (with_reducible repeat (first | apply Kd.R_alloc | apply Kd.R_drewN | apply Kd.R_drew)); exact Kd.R_mono HO308.out (fun _ hk => ⟨hk.1.2, ⟨hk.1.1.1, hk.2⟩⟩)⟩, ⟨by (with_reducible repeat (first | apply Kd.R_alloc | apply Kd.R_drewN | apply Kd.R_drew)); exact Kd.R_mono HO311.out (fun _ hk => ⟨hk.1.2, ⟨hk.1.1.1, hk.2⟩⟩)⟩, ⟨by (with_reducible repeat (first | apply Kd.R_alloc | apply Kd.R_drewN | apply Kd.R_drew)); exact Kd.R_mono HO324.out (fun _ hk => ⟨hk.1.1.2, ⟨hk.1.2, hk.2⟩⟩)⟩, ⟨by (with_reducible repeat (first | refine blk_drewN ?_ _ | refine blk_drew ?_ | refine blk_alloc ?_ _)); exact BK279.out⟩, ⟨by (with_reducible repeat (first | refine blk_drewN ?_ _ | refine blk_drew ?_ | refine blk_alloc ?_ _)); exact BK289.out⟩, ⟨by (with_reducible repeat (first | refine blk_drewN ?_ _ | refine blk_drew ?_ | refine blk_alloc ?_ _)); exact BK296.out⟩, ⟨by (with_reducible repeat (first | refine blk_drewN ?_ _ | refine blk_drew ?_ | refine blk_alloc ?_ _)); exact BK313.out⟩, ⟨by (with_reducible repeat (first | refine blk_drewN ?_ _ | refine blk_drew ?_ | refine blk_alloc ?_ _)); exact BK321.out⟩, ⟨by repeat (first | (with_reducible first | exact HB.out | apply below_alloc | apply pw_below_drewN | apply below_drew1 | refine below_set ?_ GE279.out | refine below_set ?_ GE289.out | refine below_set ?_ GE296.out | refine below_set ?_ GE313.out | refine below_set ?_ GE321.out) | exact HB.out)⟩⟩
            · rw [if_neg c68] at H
              have c68b0 : (t312 == t320) = false := beq_eq_false_iff_ne.mpr c68
              have c68b1 : (t312 != t320) = true := bne_iff_ne.mpr c68
              have H' := Aside0.mk H
              clear H
              have hnb84 := NB289_279.out
              have hnc84 := NB279_289.out
              have hnb85 := NB289_296.out
              have hnc85 := NB296_289.out
              have hnb86 := NB289_313.out
              have hnc86 := NB313_289.out
              have hnb87 := NB289_321.out
              have hnc87 := NB321_289.out
              have hcz88_0 : w41.cell? ⟨gb289, 0, none⟩ = some (.int .i64 t283) := (blk_cell BK289.out 0).trans rfl
              have hcz88_1 : w41.cell? ⟨gb289, 1, none⟩ = some (.int .i64 t284) := (blk_cell BK289.out 1).trans rfl
              have hcz88_2 : w41.cell? ⟨gb289, 2, none⟩ = some (.bool t285) := (blk_cell BK289.out 2).trans rfl
              have hcz88_3 : w41.cell? ⟨gb289, 3, none⟩ = some (.int .i64 t286) := (blk_cell BK289.out 3).trans rfl
              have hcz88_4 : w41.cell? ⟨gb289, 4, none⟩ = some (.int .i64 t287) := (blk_cell BK289.out 4).trans rfl
              have hfz88_0 := blk_frozen BK289.out 0
              have hfz88_1 := blk_frozen BK289.out 1
              have hfz88_2 := blk_frozen BK289.out 2
              have hfz88_3 := blk_frozen BK289.out 3
              have hfz88_4 := blk_frozen BK289.out 4
              have hnb89 := NB296_279.out
              have hnc89 := NB279_296.out
              have hnb90 := NB296_313.out
              have hnc90 := NB313_296.out
              have hnb91 := NB296_321.out
              have hnc91 := NB321_296.out
              have hcz92_0 : w41.cell? ⟨gb296, 0, none⟩ = some (.int .i64 t290) := (blk_cell BK296.out 0).trans rfl
              have hcz92_1 : w41.cell? ⟨gb296, 1, none⟩ = some (.int .i64 t291) := (blk_cell BK296.out 1).trans rfl
              have hcz92_2 : w41.cell? ⟨gb296, 2, none⟩ = some (.bool t292) := (blk_cell BK296.out 2).trans rfl
              have hcz92_3 : w41.cell? ⟨gb296, 3, none⟩ = some (.int .i64 t293) := (blk_cell BK296.out 3).trans rfl
              have hcz92_4 : w41.cell? ⟨gb296, 4, none⟩ = some (.int .i64 t294) := (blk_cell BK296.out 4).trans rfl
              have hfz92_0 := blk_frozen BK296.out 0
              have hfz92_1 := blk_frozen BK296.out 1
              have hfz92_2 := blk_frozen BK296.out 2
              have hfz92_3 := blk_frozen BK296.out 3
              have hfz92_4 := blk_frozen BK296.out 4
              have hnb93 := NB313_279.out
              have hnc93 := NB279_313.out
              have hnb94 := NB313_321.out
              have hnc94 := NB321_313.out
              have hcz95_0 : w41.cell? ⟨gb313, 0, none⟩ = some (.int .i64 t301) := (blk_cell BK313.out 0).trans rfl
              have hcz95_1 : w41.cell? ⟨gb313, 1, none⟩ = some (.int .i64 t302) := (blk_cell BK313.out 1).trans rfl
              have hcz95_2 : w41.cell? ⟨gb313, 2, none⟩ = some (.bool t303) := (blk_cell BK313.out 2).trans rfl
              have hcz95_3 : w41.cell? ⟨gb313, 3, none⟩ = some (.int .i64 t304) := (blk_cell BK313.out 3).trans rfl
              have hcz95_4 : w41.cell? ⟨gb313, 4, none⟩ = some (.int .i64 t305) := (blk_cell BK313.out 4).trans rfl
              have hfz95_0 := blk_frozen BK313.out 0
              have hfz95_1 := blk_frozen BK313.out 1
              have hfz95_2 := blk_frozen BK313.out 2
              have hfz95_3 := blk_frozen BK313.out 3
              have hfz95_4 := blk_frozen BK313.out 4
              have hnb96 := NB321_279.out
              have hnc96 := NB279_321.out
              have hcz97_0 : w41.cell? ⟨gb321, 0, none⟩ = some (.int .i64 t314) := (blk_cell BK321.out 0).trans rfl
              have hcz97_1 : w41.cell? ⟨gb321, 1, none⟩ = some (.int .i64 t315) := (blk_cell BK321.out 1).trans rfl
              have hcz97_2 : w41.cell? ⟨gb321, 2, none⟩ = some (.bool t316) := (blk_cell BK321.out 2).trans rfl
              have hcz97_3 : w41.cell? ⟨gb321, 3, none⟩ = some (.int .i64 t317) := (blk_cell BK321.out 3).trans rfl
              have hcz97_4 : w41.cell? ⟨gb321, 4, none⟩ = some (.int .i64 t318) := (blk_cell BK321.out 4).trans rfl
              have hfz97_0 := blk_frozen BK321.out 0
              have hfz97_1 := blk_frozen BK321.out 1
              have hfz97_2 := blk_frozen BK321.out 2
              have hfz97_3 := blk_frozen BK321.out 3
              have hfz97_4 := blk_frozen BK321.out 4
              go_wp2
              go_meet
              case rel => exact ⟨_, (true), (by first | rfl | (simp; done) | (simp [*]; done)), H', ⟨by first | omega | exact Nat.le_refl _⟩, ⟨by (with_reducible repeat (first | apply Kd.R_alloc | apply Kd.R_drewN | apply Kd.R_drew)); exact Kd.R_mono HO299.out (fun _ hk => ⟨hk.1.1.2, ⟨hk.1.2, hk.2⟩⟩)⟩, ⟨by (with_reducible repeat (first | apply Kd.R_alloc | apply Kd.R_drewN | apply Kd.R_drew)); exact Kd.R_mono HO308.out (fun _ hk => ⟨hk.1.2, ⟨hk.1.1.1, hk.2⟩⟩)⟩, ⟨by (with_reducible repeat (first | apply Kd.R_alloc | apply Kd.R_drewN | apply Kd.R_drew)); exact Kd.R_mono HO311.out (fun _ hk => ⟨hk.1.2, ⟨hk.1.1.1, hk.2⟩⟩)⟩, ⟨by (with_reducible repeat (first | apply Kd.R_alloc | apply Kd.R_drewN | apply Kd.R_drew)); exact Kd.R_mono HO324.out (fun _ hk => ⟨hk.1.1.2, ⟨hk.1.2, hk.2⟩⟩)⟩, ⟨by (with_reducible repeat (first | refine blk_drewN ?_ _ | refine blk_drew ?_ | refine blk_alloc ?_ _)); exact BK279.out⟩, ⟨by (with_reducible repeat (first | refine blk_drewN ?_ _ | refine blk_drew ?_ | refine blk_alloc ?_ _)); exact BK289.out⟩, ⟨by (with_reducible repeat (first | refine blk_drewN ?_ _ | refine blk_drew ?_ | refine blk_alloc ?_ _)); exact BK296.out⟩, ⟨by (with_reducible repeat (first | refine blk_drewN ?_ _ | refine blk_drew ?_ | refine blk_alloc ?_ _)); exact BK313.out⟩, ⟨by (with_reducible repeat (first | refine blk_drewN ?_ _ | refine blk_drew ?_ | refine blk_alloc ?_ _)); exact BK321.out⟩, ⟨by repeat (first | (with_reducible first | exact HB.out | apply below_alloc | apply pw_below_drewN | apply below_drew1 | refine below_set ?_ GE279.out | refine below_set ?_ GE289.out | refine below_set ?_ GE296.out | refine below_set ?_ GE313.out | refine below_set ?_ GE321.out) | exact HB.out)⟩⟩
        · rw [if_neg c52] at H
          have c52b0 : (t288 == t295) = false := beq_eq_false_iff_ne.mpr c52
          have c52b1 : (t288 != t295) = true := bne_iff_ne.mpr c52
          have H' := Aside0.mk H
          clear H
          have hnb98 := NB289_279.out
          have hnc98 := NB279_289.out
          have hnb99 := NB289_296.out
          have hnc99 := NB296_289.out
          have hnb100 := NB289_313.out
          have hnc100 := NB313_289.out
          have hnb101 := NB289_321.out
          have hnc101 := NB321_289.out
          have hcz102_0 : w41.cell? ⟨gb289, 0, none⟩ = some (.int .i64 t283) := (blk_cell BK289.out 0).trans rfl
          have hcz102_1 : w41.cell? ⟨gb289, 1, none⟩ = some (.int .i64 t284) := (blk_cell BK289.out 1).trans rfl
          have hcz102_2 : w41.cell? ⟨gb289, 2, none⟩ = some (.bool t285) := (blk_cell BK289.out 2).trans rfl
          have hcz102_3 : w41.cell? ⟨gb289, 3, none⟩ = some (.int .i64 t286) := (blk_cell BK289.out 3).trans rfl
          have hcz102_4 : w41.cell? ⟨gb289, 4, none⟩ = some (.int .i64 t287) := (blk_cell BK289.out 4).trans rfl
          have hfz102_0 := blk_frozen BK289.out 0
          have hfz102_1 := blk_frozen BK289.out 1
          have hfz102_2 := blk_frozen BK289.out 2
          have hfz102_3 := blk_frozen BK289.out 3
          have hfz102_4 := blk_frozen BK289.out 4
          have hnb103 := NB296_279.out
          have hnc103 := NB279_296.out
          have hnb104 := NB296_313.out
          have hnc104 := NB313_296.out
          have hnb105 := NB296_321.out
          have hnc105 := NB321_296.out
          have hcz106_0 : w41.cell? ⟨gb296, 0, none⟩ = some (.int .i64 t290) := (blk_cell BK296.out 0).trans rfl
          have hcz106_1 : w41.cell? ⟨gb296, 1, none⟩ = some (.int .i64 t291) := (blk_cell BK296.out 1).trans rfl
          have hcz106_2 : w41.cell? ⟨gb296, 2, none⟩ = some (.bool t292) := (blk_cell BK296.out 2).trans rfl
          have hcz106_3 : w41.cell? ⟨gb296, 3, none⟩ = some (.int .i64 t293) := (blk_cell BK296.out 3).trans rfl
          have hcz106_4 : w41.cell? ⟨gb296, 4, none⟩ = some (.int .i64 t294) := (blk_cell BK296.out 4).trans rfl
          have hfz106_0 := blk_frozen BK296.out 0
          have hfz106_1 := blk_frozen BK296.out 1
          have hfz106_2 := blk_frozen BK296.out 2
          have hfz106_3 := blk_frozen BK296.out 3
          have hfz106_4 := blk_frozen BK296.out 4
          go_wp2
          go_meet
          case rel => exact ⟨_, (true), (by first | rfl | (simp; done) | (simp [*]; done)), H', ⟨by first | omega | exact Nat.le_refl _⟩, ⟨by (with_reducible repeat (first | apply Kd.R_alloc | apply Kd.R_drewN | apply Kd.R_drew)); exact Kd.R_mono HO299.out (fun _ hk => ⟨hk.1.1.2, ⟨hk.1.2, hk.2⟩⟩)⟩, ⟨by (with_reducible repeat (first | apply Kd.R_alloc | apply Kd.R_drewN | apply Kd.R_drew)); exact Kd.R_mono HO308.out (fun _ hk => ⟨hk.1.2, ⟨hk.1.1.1, hk.2⟩⟩)⟩, ⟨by (with_reducible repeat (first | apply Kd.R_alloc | apply Kd.R_drewN | apply Kd.R_drew)); exact Kd.R_mono HO311.out (fun _ hk => ⟨hk.1.2, ⟨hk.1.1.1, hk.2⟩⟩)⟩, ⟨by (with_reducible repeat (first | apply Kd.R_alloc | apply Kd.R_drewN | apply Kd.R_drew)); exact Kd.R_mono HO324.out (fun _ hk => ⟨hk.1.1.2, ⟨hk.1.2, hk.2⟩⟩)⟩, ⟨by (with_reducible repeat (first | refine blk_drewN ?_ _ | refine blk_drew ?_ | refine blk_alloc ?_ _)); exact BK279.out⟩, ⟨by (with_reducible repeat (first | refine blk_drewN ?_ _ | refine blk_drew ?_ | refine blk_alloc ?_ _)); exact BK289.out⟩, ⟨by (with_reducible repeat (first | refine blk_drewN ?_ _ | refine blk_drew ?_ | refine blk_alloc ?_ _)); exact BK296.out⟩, ⟨by (with_reducible repeat (first | refine blk_drewN ?_ _ | refine blk_drew ?_ | refine blk_alloc ?_ _)); exact BK313.out⟩, ⟨by (with_reducible repeat (first | refine blk_drewN ?_ _ | refine blk_drew ?_ | refine blk_alloc ?_ _)); exact BK321.out⟩, ⟨by repeat (first | (with_reducible first | exact HB.out | apply below_alloc | apply pw_below_drewN | apply below_drew1 | refine below_set ?_ GE279.out | refine below_set ?_ GE289.out | refine below_set ?_ GE296.out | refine below_set ?_ GE313.out | refine below_set ?_ GE321.out) | exact HB.out)⟩⟩
    case rest =>
      clear HC12
      try clear c1
      try clear c2
      try clear p2
      try clear c3
      try clear c3b0
      try clear c3b1
      try clear c4
      try clear c5
      try clear c6
      try clear c7
      try clear c8
      try clear c9
      try clear c10
      try clear c11
      try clear c13
      try clear c14
      try clear c15
      try clear c16
      try clear c18
      try clear c22
      try clear c23
      try clear c29
      try clear c30
      try clear c31
      try clear c35
      try clear c36
      try clear c37
      try clear c38
      try clear c42
      try clear c42b0
      try clear c43
      try clear c44
      try clear c45
      try clear c46
      try clear c48
      try clear c49
      try clear c50
      try clear c52
      try clear c52b0
      try clear c52b1
      try clear c53
      try clear c53b0
      try clear c54
      try clear c55
      try clear c56
      try clear c57
      try clear c59
      try clear c60
      try clear c61
      try clear c63
      try clear c64
      try clear c66
      try clear c68
      try clear c68b0
      try clear c68b1
      try clear c70
      try clear c71
      try clear c72
      try clear c73
      try clear c75
      try clear c76
      try clear c77
      try clear c79
      try clear c80
      try clear c82
      try clear c84
      try clear c85
      try clear c86
      try clear c87
      try clear c89
      try clear c90
      try clear c91
      try clear c93
      try clear c94
      try clear c96
      try clear c98
      try clear c99
      try clear c100
      try clear c101
      try clear c103
      try clear c104
      try clear c105
      try clear hcz102_0
      try clear hcz102_1
      try clear hcz102_2
      try clear hcz102_3
      try clear hcz102_4
      try clear hcz106_0
      try clear hcz106_1
      try clear hcz106_2
      try clear hcz106_3
      try clear hcz106_4
      try clear hcz19_0
      try clear hcz19_1
      try clear hcz19_2
      try clear hcz19_3
      try clear hcz19_4
      try clear hcz24_0
      try clear hcz24_1
      try clear hcz24_2
      try clear hcz24_3
      try clear hcz24_4
      try clear hcz25_0
      try clear hcz25_1
      try clear hcz25_2
      try clear hcz25_3
      try clear hcz25_4
      try clear hcz32_0
      try clear hcz32_1
      try clear hcz32_2
      try clear hcz32_3
      try clear hcz32_4
      try clear hcz39_0
      try clear hcz39_1
      try clear hcz39_2
      try clear hcz39_3
      try clear hcz39_4
      try clear hcz40_0
      try clear hcz40_1
      try clear hcz40_2
      try clear hcz40_3
      try clear hcz40_4
      try clear hcz47_0
      try clear hcz47_1
      try clear hcz47_2
      try clear hcz47_3
      try clear hcz47_4
      try clear hcz51_0
      try clear hcz51_1
      try clear hcz51_2
      try clear hcz51_3
      try clear hcz51_4
      try clear hcz58_0
      try clear hcz58_1
      try clear hcz58_2
      try clear hcz58_3
      try clear hcz58_4
      try clear hcz62_0
      try clear hcz62_1
      try clear hcz62_2
      try clear hcz62_3
      try clear hcz62_4
      try clear hcz65_0
      try clear hcz65_1
      try clear hcz65_2
      try clear hcz65_3
      try clear hcz65_4
      try clear hcz67_0
      try clear hcz67_1
      try clear hcz67_2
      try clear hcz67_3
      try clear hcz67_4
      try clear hcz74_0
      try clear hcz74_1
      try clear hcz74_2
      try clear hcz74_3
      try clear hcz74_4
      try clear hcz78_0
      try clear hcz78_1
      try clear hcz78_2
      try clear hcz78_3
      try clear hcz78_4
      try clear hcz81_0
      try clear hcz81_1
      try clear hcz81_2
      try clear hcz81_3
      try clear hcz81_4
      try clear hcz83_0
      try clear hcz83_1
      try clear hcz83_2
      try clear hcz83_3
      try clear hcz83_4
      try clear hcz88_0
      try clear hcz88_1
      try clear hcz88_2
      try clear hcz88_3
      try clear hcz88_4
      try clear hcz92_0
      try clear hcz92_1
      try clear hcz92_2
      try clear hcz92_3
      try clear hcz92_4
      try clear hcz95_0
      try clear hcz95_1
      try clear hcz95_2
      try clear hcz95_3
      try clear hcz95_4
      try clear hcz97_0
      try clear hcz97_1
      try clear hcz97_2
      try clear hcz97_3
      try clear hcz97_4
      try clear hfz102_0
      try clear hfz102_1
      try clear hfz102_2
      try clear hfz102_3
      try clear hfz102_4
      try clear hfz106_0
      try clear hfz106_1
      try clear hfz106_2
      try clear hfz106_3
      try clear hfz106_4
      try clear hfz19_0
      try clear hfz19_1
      try clear hfz19_2
      try clear hfz19_3
      try clear hfz19_4
      try clear hfz24_0
      try clear hfz24_1
      try clear hfz24_2
      try clear hfz24_3
      try clear hfz24_4
      try clear hfz25_0
      try clear hfz25_1
      try clear hfz25_2
      try clear hfz25_3
      try clear hfz25_4
      try clear hfz32_0
      try clear hfz32_1
      try clear hfz32_2
      try clear hfz32_3
      try clear hfz32_4
      try clear hfz39_0
      try clear hfz39_1
      try clear hfz39_2
      try clear hfz39_3
      try clear hfz39_4
      try clear hfz40_0
      try clear hfz40_1
      try clear hfz40_2
      try clear hfz40_3
      try clear hfz40_4
      try clear hfz47_0
      try clear hfz47_1
      try clear hfz47_2
      try clear hfz47_3
      try clear hfz47_4
      try clear hfz51_0
      try clear hfz51_1
      try clear hfz51_2
      try clear hfz51_3
      try clear hfz51_4
      try clear hfz58_0
      try clear hfz58_1
      try clear hfz58_2
      try clear hfz58_3
      try clear hfz58_4
      try clear hfz62_0
      try clear hfz62_1
      try clear hfz62_2
      try clear hfz62_3
      try clear hfz62_4
      try clear hfz65_0
      try clear hfz65_1
      try clear hfz65_2
      try clear hfz65_3
      try clear hfz65_4
      try clear hfz67_0
      try clear hfz67_1
      try clear hfz67_2
      try clear hfz67_3
      try clear hfz67_4
      try clear hfz74_0
      try clear hfz74_1
      try clear hfz74_2
      try clear hfz74_3
      try clear hfz74_4
      try clear hfz78_0
      try clear hfz78_1
      try clear hfz78_2
      try clear hfz78_3
      try clear hfz78_4
      try clear hfz81_0
      try clear hfz81_1
      try clear hfz81_2
      try clear hfz81_3
      try clear hfz81_4
      try clear hfz83_0
      try clear hfz83_1
      try clear hfz83_2
      try clear hfz83_3
      try clear hfz83_4
      try clear hfz88_0
      try clear hfz88_1
      try clear hfz88_2
      try clear hfz88_3
      try clear hfz88_4
      try clear hfz92_0
      try clear hfz92_1
      try clear hfz92_2
      try clear hfz92_3
      try clear hfz92_4
      try clear hfz95_0
      try clear hfz95_1
      try clear hfz95_2
      try clear hfz95_3
      try clear hfz95_4
      try clear hfz97_0
      try clear hfz97_1
      try clear hfz97_2
      try clear hfz97_3
      try clear hfz97_4
      obtain ⟨kq, x83_11, rfl, HA, HJ11, HO_10, HO_13, HO_14, HO_19, BK279, BK289, BK296, BK313, BK321, HB⟩ := hcut
      cases kq with
      | zero => exact absurd HA.out (by simp [sobriquetlaw01_TlvExact.j0])
      | succ kj11 =>
        have H := HA.out
        clear HA
        simp only [sobriquetlaw01_TlvExact.j0] at H
        by_cases c107 : x83_11 = true
        · subst c107
          have H1 : (some false) = some r := by rw [if_pos rfl] at H; exact H
          clear H
          have H := H1
          clear H1
          exact absurd ((Option.some.inj H).trans hrt.out) (by decide)
        · replace c107 := Bool.eq_false_iff.mpr c107
          subst c107
          have H1 : (if t320 = 0 then (if 0 ≤ t318 then (if t318 ≤ t319 then (if t319 ≤ (l0.length : Int) then ((sobriquetkeep_Bytes.f kj11 t306 ((l0.take (t319 : Int).toNat).drop (t318 : Int).toNat)).bind fun t328 => (if t328 = true then (if 0 ≤ t319 then ((sobriquetkeep_Bytes.f kj11 t309 (l0.drop (t319 : Int).toNat)).bind fun t330 => (if t330 = true then (sobriquetlaw01_TlvExact.j1 kj11 l0 t297 t300 t322 t325 false a1_0 a1_1 a1_2 a1_3 a1_4) else (sobriquetlaw01_TlvExact.j1 kj11 l0 t297 t300 t322 t325 true a1_0 a1_1 a1_2 a1_3 a1_4))) else (none)) else (sobriquetlaw01_TlvExact.j1 kj11 l0 t297 t300 t322 t325 true a1_0 a1_1 a1_2 a1_3 a1_4))) else (none)) else (none)) else (none)) else (sobriquetlaw01_TlvExact.j1 kj11 l0 t297 t300 t322 t325 (decide ((wrap64 ((t306.length : Int) + (t309.length : Int))) > 0)) a1_0 a1_1 a1_2 a1_3 a1_4)) = some r := by rw [if_neg (show ¬ (false = true) by decide)] at H; exact H
          clear H
          have H := H1
          clear H1
          have HC108 := Aside0.mk H
          clear H
          go_upto_region 12 with (fail)
          go_cut [115] (fun v115 wc => ∃ (kq : Nat) (x115_107 : Bool), v115 = .bool x115_107 ∧ Aside0 (sobriquetlaw01_TlvExact.j1 kq l0 t297 t300 t322 t325 x115_107 a1_0 a1_1 a1_2 a1_3 a1_4 = some r) ∧ Aside0 (kq ≤ kj11) ∧ Aside0 (Kd.R (Kd.int .u8) 5 wc w.heap.size (fun k_ => some k_ ≠ (v323 : Value).ownBlock) v298 t297) ∧ Aside0 (Kd.R (Kd.int .u8) 5 wc w.heap.size (fun k_ => some k_ ≠ (v298 : Value).ownBlock) v323 t322) ∧ Aside0 (wc.heap[gb279]? = some (.cells #[.int .i64 a1_0, .int .i64 a1_1, .bool a1_2, .int .i64 a1_3, .int .i64 a1_4] 23 (0, 0))) ∧ Aside0 (wc.heap[gb289]? = some (.cells #[.int .i64 t283, .int .i64 t284, .bool t285, .int .i64 t286, .int .i64 t287] 23 (0, 0))) ∧ Aside0 (wc.heap[gb296]? = some (.cells #[.int .i64 t290, .int .i64 t291, .bool t292, .int .i64 t293, .int .i64 t294] 23 (0, 0))) ∧ Aside0 (wc.heap[gb313]? = some (.cells #[.int .i64 t301, .int .i64 t302, .bool t303, .int .i64 t304, .int .i64 t305] 23 (0, 0))) ∧ Aside0 (wc.heap[gb321]? = some (.cells #[.int .i64 t314, .int .i64 t315, .bool t316, .int .i64 t317, .int .i64 t318] 23 (0, 0))) ∧ Aside0 (Below w.heap.size w wc))
          case first =>
            have H := HC108.out
            clear HC108
            by_cases c109 : t320 = 0
            · rw [if_pos c109] at H
              have c109b0 : (t320 == 0) = true := beq_iff_eq.mpr c109
              have c109b1 : (t320 != 0) = false := bne_eq_false_iff_eq.mpr c109
              clear c109
              (first | rw [c109b0] | (simp only [i64_w, i32_w]; rw [c109b0]) | skip)
              by_cases c110 : 0 ≤ t318
              · rw [if_pos c110] at H
                have c110b0 := eq_true c110
                have c110b1 : decide (0 ≤ t318) = true := decide_eq_true c110
                clear c110
                by_cases c111 : t318 ≤ t319
                · rw [if_pos c111] at H
                  have c111b0 := eq_true c111
                  have c111b1 : decide (t318 ≤ t319) = true := decide_eq_true c111
                  clear c111
                  by_cases c112 : t319 ≤ (l0.length : Int)
                  · rw [if_pos c112] at H
                    have c112b0 := eq_true c112
                    have c112b1 : decide (t319 ≤ (l0.length : Int)) = true := decide_eq_true c112
                    clear c112
                    replace H := Option.bind_eq_some_iff.mp H
                    obtain ⟨t328, A1130, H⟩ := H
                    replace H : (if t328 = true then (if 0 ≤ t319 then ((sobriquetkeep_Bytes.f kj11 t309 (l0.drop (t319 : Int).toNat)).bind fun t330 => (if t330 = true then (sobriquetlaw01_TlvExact.j1 kj11 l0 t297 t300 t322 t325 false a1_0 a1_1 a1_2 a1_3 a1_4) else (sobriquetlaw01_TlvExact.j1 kj11 l0 t297 t300 t322 t325 true a1_0 a1_1 a1_2 a1_3 a1_4))) else (none)) else (sobriquetlaw01_TlvExact.j1 kj11 l0 t297 t300 t322 t325 true a1_0 a1_1 a1_2 a1_3 a1_4)) = some r := H
                    have A113 := Aside0.mk A1130
                    clear A1130
                    by_cases c114 : t328 = true
                    · subst c114
                      have H1 : (if 0 ≤ t319 then ((sobriquetkeep_Bytes.f kj11 t309 (l0.drop (t319 : Int).toNat)).bind fun t330 => (if t330 = true then (sobriquetlaw01_TlvExact.j1 kj11 l0 t297 t300 t322 t325 false a1_0 a1_1 a1_2 a1_3 a1_4) else (sobriquetlaw01_TlvExact.j1 kj11 l0 t297 t300 t322 t325 true a1_0 a1_1 a1_2 a1_3 a1_4))) else (none)) = some r := by rw [if_pos rfl] at H; exact H
                      clear H
                      have H := H1
                      clear H1
                      by_cases c115 : 0 ≤ t319
                      · rw [if_pos c115] at H
                        have c115b0 := eq_true c115
                        have c115b1 : decide (0 ≤ t319) = true := decide_eq_true c115
                        clear c115
                        have c116b0 := eq_true (of_decide_eq_true (by first | (with_reducible assumption) | assumption) : t319 ≤ (l0.length : Int))
                        replace H := Option.bind_eq_some_iff.mp H
                        obtain ⟨t330, A1170, H⟩ := H
                        replace H : (if t330 = true then (sobriquetlaw01_TlvExact.j1 kj11 l0 t297 t300 t322 t325 false a1_0 a1_1 a1_2 a1_3 a1_4) else (sobriquetlaw01_TlvExact.j1 kj11 l0 t297 t300 t322 t325 true a1_0 a1_1 a1_2 a1_3 a1_4)) = some r := H
                        have A117 := Aside0.mk A1170
                        clear A1170
                        by_cases c118 : t330 = true
                        · subst c118
                          have H1 : (sobriquetlaw01_TlvExact.j1 kj11 l0 t297 t300 t322 t325 false a1_0 a1_1 a1_2 a1_3 a1_4) = some r := by rw [if_pos rfl] at H; exact H
                          clear H
                          have H := H1
                          clear H1
                          have H' := Aside0.mk H
                          clear H
                          have hnb119 := NB321_279.out
                          have hnc119 := NB279_321.out
                          have hnb120 := NB321_289.out
                          have hnc120 := NB289_321.out
                          have hnb121 := NB321_296.out
                          have hnc121 := NB296_321.out
                          have hnb122 := NB321_313.out
                          have hnc122 := NB313_321.out
                          have hcz123_0 : wc.cell? ⟨gb321, 0, none⟩ = some (.int .i64 t314) := (blk_cell BK321.out 0).trans rfl
                          have hcz123_1 : wc.cell? ⟨gb321, 1, none⟩ = some (.int .i64 t315) := (blk_cell BK321.out 1).trans rfl
                          have hcz123_2 : wc.cell? ⟨gb321, 2, none⟩ = some (.bool t316) := (blk_cell BK321.out 2).trans rfl
                          have hcz123_3 : wc.cell? ⟨gb321, 3, none⟩ = some (.int .i64 t317) := (blk_cell BK321.out 3).trans rfl
                          have hcz123_4 : wc.cell? ⟨gb321, 4, none⟩ = some (.int .i64 t318) := (blk_cell BK321.out 4).trans rfl
                          have hfz123_0 := blk_frozen BK321.out 0
                          have hfz123_1 := blk_frozen BK321.out 1
                          have hfz123_2 := blk_frozen BK321.out 2
                          have hfz123_3 := blk_frozen BK321.out 3
                          have hfz123_4 := blk_frozen BK321.out 4
                          obtain ⟨i0124, hi0124, _, hsz124, _⟩ := info_parts info5
                          obtain ⟨A124, hcut124, hA124, hC124⟩ := print_mid_of (P := Try.prog) (Value.int .u8) 0 24 5 .i64 .i64 Try.underlying24 hi0124 hsz124 A0 c0 l0 t318 t319 (of_decide_eq_true (by first | (with_reducible assumption) | assumption)) (by first | omega | exact of_decide_eq_true (by first | (with_reducible assumption) | assumption)) (of_decide_eq_true (by first | (with_reducible assumption) | assumption)) HC0.out
                          have HR327 := Aside0.mk (Kd.C_of_reads (h1 := fun _ => rfl) (hA124 _ (Kd.reads_of_C HR0.out)))
                          have HC327 := Aside0.mk hC124
                          clear hA124 hC124 hi0124 hsz124
                          obtain ⟨yc124, hyc124⟩ : ∃ y_ : List Int, y_ = ((l0.take (t319 : Int).toNat).drop (t318 : Int).toNat) := ⟨_, rfl⟩
                          (try simp only [Int.reduceToNat] at hcut124 HR327 HC327)
                          rw [← hyc124] at hcut124 HR327 HC327
                          (try rw [← hyc124] at H')
                          rw [← hyc124] at A113
                          have Nyc124 := Aside0.mk hyc124
                          clear hyc124
                          obtain ⟨Ao125, co125, eo125⟩ := Kd.R_slice HO_13.out
                          subst eo125
                          go_wp2_with (first | (go_at_call 12; (with_reducible refine (sobriquetkeep_Bytes.calls kj11 _ _ t306 _ _ yc124 true _ ?side1 ?side2 ?side3 ?side4 A113.out).mono ?_); (case side1 => repeat (first | exact (Kd.R_reads' HO_13.out).2.2 | (with_reducible refine Kd.C_alloc ?_ _) | (with_reducible refine Kd.C_drewN ?_ _) | (with_reducible refine Kd.C_drew ?_))); (case side2 => exact (Kd.R_reads' HO_13.out).2.1); (case side3 => repeat (first | exact (Kd.C_below HR327.out HB.out) | (with_reducible refine Kd.C_alloc ?_ _) | (with_reducible refine Kd.C_drewN ?_ _) | (with_reducible refine Kd.C_drew ?_))); (case side4 => exact HC327.out); rintro e w' ⟨rfl, ⟨nd, rfl⟩⟩; obtain ⟨i0126, hi0126, _, hsz126, _⟩ := info_parts info5; obtain ⟨A126, hcut126, hA126, hC126⟩ := print_drop_of (P := Try.prog) (Value.int .u8) 0 24 5 .i64 Try.underlying24 hi0126 hsz126 A0 c0 l0 t319 (of_decide_eq_true (by first | (with_reducible assumption) | assumption)) (of_decide_eq_true (by first | (with_reducible assumption) | assumption)) HC0.out; have HR329 := Aside0.mk (Kd.C_of_reads (h1 := fun _ => rfl) (hA126 _ (Kd.reads_of_C HR0.out))); have HC329 := Aside0.mk hC126; clear hA126 hC126 hi0126 hsz126; obtain ⟨Ao127, co127, eo127⟩ := Kd.R_slice HO_14.out; subst eo127) | (go_at_call 12; (try rw [show l0.length - t319.toNat = (l0.drop (t319 : Int).toNat).length from List.length_drop.symm]); (with_reducible refine (sobriquetkeep_Bytes.calls kj11 _ _ t309 _ _ (l0.drop (t319 : Int).toNat) true _ ?side1 ?side2 ?side3 ?side4 A117.out).mono ?_); (case side1 => repeat (first | exact (Kd.R_reads' HO_14.out).2.2 | (with_reducible refine Kd.C_alloc ?_ _) | (with_reducible refine Kd.C_drewN ?_ _) | (with_reducible refine Kd.C_drew ?_))); (case side2 => exact (Kd.R_reads' HO_14.out).2.1); (case side3 => repeat (first | exact (Kd.C_below HR329.out (by repeat (first | (with_reducible first | exact HB.out | apply below_alloc | apply pw_below_drewN | apply below_drew1 | refine below_set ?_ GE279.out | refine below_set ?_ GE289.out | refine below_set ?_ GE296.out | refine below_set ?_ GE313.out | refine below_set ?_ GE321.out) | exact HB.out))) | (with_reducible refine Kd.C_alloc ?_ _) | (with_reducible refine Kd.C_drewN ?_ _) | (with_reducible refine Kd.C_drew ?_))); (case side4 => exact HC329.out); rintro e w' ⟨rfl, ⟨nd, rfl⟩⟩))
                          go_meet
                          case rel => exact ⟨_, (false), (by first | rfl | (simp; done) | (simp [*]; done)), H', ⟨by have := HJ11.out; first | omega | exact Nat.le_refl _⟩, ⟨by (with_reducible repeat (first | apply Kd.R_alloc | apply Kd.R_drewN | apply Kd.R_drew)); exact Kd.R_mono HO_10.out (fun _ hk => hk.2.2)⟩, ⟨by (with_reducible repeat (first | apply Kd.R_alloc | apply Kd.R_drewN | apply Kd.R_drew)); exact Kd.R_mono HO_19.out (fun _ hk => hk.1)⟩, ⟨by (with_reducible repeat (first | refine blk_drewN ?_ _ | refine blk_drew ?_ | refine blk_alloc ?_ _)); exact BK279.out⟩, ⟨by (with_reducible repeat (first | refine blk_drewN ?_ _ | refine blk_drew ?_ | refine blk_alloc ?_ _)); exact BK289.out⟩, ⟨by (with_reducible repeat (first | refine blk_drewN ?_ _ | refine blk_drew ?_ | refine blk_alloc ?_ _)); exact BK296.out⟩, ⟨by (with_reducible repeat (first | refine blk_drewN ?_ _ | refine blk_drew ?_ | refine blk_alloc ?_ _)); exact BK313.out⟩, ⟨by (with_reducible repeat (first | refine blk_drewN ?_ _ | refine blk_drew ?_ | refine blk_alloc ?_ _)); exact BK321.out⟩, ⟨by repeat (first | (with_reducible first | exact HB.out | apply below_alloc | apply pw_below_drewN | apply below_drew1 | refine below_set ?_ GE279.out | refine below_set ?_ GE289.out | refine below_set ?_ GE296.out | refine below_set ?_ GE313.out | refine below_set ?_ GE321.out) | exact HB.out)⟩⟩
                        · replace c118 := Bool.eq_false_iff.mpr c118
                          subst c118
                          have H1 : (sobriquetlaw01_TlvExact.j1 kj11 l0 t297 t300 t322 t325 true a1_0 a1_1 a1_2 a1_3 a1_4) = some r := by rw [if_neg (show ¬ (false = true) by decide)] at H; exact H
                          clear H
                          have H := H1
                          clear H1
                          have H' := Aside0.mk H
                          clear H
                          have hnb128 := NB321_279.out
                          have hnc128 := NB279_321.out
                          have hnb129 := NB321_289.out
                          have hnc129 := NB289_321.out
                          have hnb130 := NB321_296.out
                          have hnc130 := NB296_321.out
                          have hnb131 := NB321_313.out
                          have hnc131 := NB313_321.out
                          have hcz132_0 : wc.cell? ⟨gb321, 0, none⟩ = some (.int .i64 t314) := (blk_cell BK321.out 0).trans rfl
                          have hcz132_1 : wc.cell? ⟨gb321, 1, none⟩ = some (.int .i64 t315) := (blk_cell BK321.out 1).trans rfl
                          have hcz132_2 : wc.cell? ⟨gb321, 2, none⟩ = some (.bool t316) := (blk_cell BK321.out 2).trans rfl
                          have hcz132_3 : wc.cell? ⟨gb321, 3, none⟩ = some (.int .i64 t317) := (blk_cell BK321.out 3).trans rfl
                          have hcz132_4 : wc.cell? ⟨gb321, 4, none⟩ = some (.int .i64 t318) := (blk_cell BK321.out 4).trans rfl
                          have hfz132_0 := blk_frozen BK321.out 0
                          have hfz132_1 := blk_frozen BK321.out 1
                          have hfz132_2 := blk_frozen BK321.out 2
                          have hfz132_3 := blk_frozen BK321.out 3
                          have hfz132_4 := blk_frozen BK321.out 4
                          obtain ⟨i0133, hi0133, _, hsz133, _⟩ := info_parts info5
                          obtain ⟨A133, hcut133, hA133, hC133⟩ := print_mid_of (P := Try.prog) (Value.int .u8) 0 24 5 .i64 .i64 Try.underlying24 hi0133 hsz133 A0 c0 l0 t318 t319 (of_decide_eq_true (by first | (with_reducible assumption) | assumption)) (by first | omega | exact of_decide_eq_true (by first | (with_reducible assumption) | assumption)) (of_decide_eq_true (by first | (with_reducible assumption) | assumption)) HC0.out
                          have HR327 := Aside0.mk (Kd.C_of_reads (h1 := fun _ => rfl) (hA133 _ (Kd.reads_of_C HR0.out)))
                          have HC327 := Aside0.mk hC133
                          clear hA133 hC133 hi0133 hsz133
                          obtain ⟨yc133, hyc133⟩ : ∃ y_ : List Int, y_ = ((l0.take (t319 : Int).toNat).drop (t318 : Int).toNat) := ⟨_, rfl⟩
                          (try simp only [Int.reduceToNat] at hcut133 HR327 HC327)
                          rw [← hyc133] at hcut133 HR327 HC327
                          (try rw [← hyc133] at H')
                          rw [← hyc133] at A113
                          have Nyc133 := Aside0.mk hyc133
                          clear hyc133
                          obtain ⟨Ao134, co134, eo134⟩ := Kd.R_slice HO_13.out
                          subst eo134
                          go_wp2_with (first | (go_at_call 12; (with_reducible refine (sobriquetkeep_Bytes.calls kj11 _ _ t306 _ _ yc133 true _ ?side1 ?side2 ?side3 ?side4 A113.out).mono ?_); (case side1 => repeat (first | exact (Kd.R_reads' HO_13.out).2.2 | (with_reducible refine Kd.C_alloc ?_ _) | (with_reducible refine Kd.C_drewN ?_ _) | (with_reducible refine Kd.C_drew ?_))); (case side2 => exact (Kd.R_reads' HO_13.out).2.1); (case side3 => repeat (first | exact (Kd.C_below HR327.out HB.out) | (with_reducible refine Kd.C_alloc ?_ _) | (with_reducible refine Kd.C_drewN ?_ _) | (with_reducible refine Kd.C_drew ?_))); (case side4 => exact HC327.out); rintro e w' ⟨rfl, ⟨nd, rfl⟩⟩; obtain ⟨i0135, hi0135, _, hsz135, _⟩ := info_parts info5; obtain ⟨A135, hcut135, hA135, hC135⟩ := print_drop_of (P := Try.prog) (Value.int .u8) 0 24 5 .i64 Try.underlying24 hi0135 hsz135 A0 c0 l0 t319 (of_decide_eq_true (by first | (with_reducible assumption) | assumption)) (of_decide_eq_true (by first | (with_reducible assumption) | assumption)) HC0.out; have HR329 := Aside0.mk (Kd.C_of_reads (h1 := fun _ => rfl) (hA135 _ (Kd.reads_of_C HR0.out))); have HC329 := Aside0.mk hC135; clear hA135 hC135 hi0135 hsz135; obtain ⟨Ao136, co136, eo136⟩ := Kd.R_slice HO_14.out; subst eo136) | (go_at_call 12; (try rw [show l0.length - t319.toNat = (l0.drop (t319 : Int).toNat).length from List.length_drop.symm]); (with_reducible refine (sobriquetkeep_Bytes.calls kj11 _ _ t309 _ _ (l0.drop (t319 : Int).toNat) false _ ?side1 ?side2 ?side3 ?side4 A117.out).mono ?_); (case side1 => repeat (first | exact (Kd.R_reads' HO_14.out).2.2 | (with_reducible refine Kd.C_alloc ?_ _) | (with_reducible refine Kd.C_drewN ?_ _) | (with_reducible refine Kd.C_drew ?_))); (case side2 => exact (Kd.R_reads' HO_14.out).2.1); (case side3 => repeat (first | exact (Kd.C_below HR329.out (by repeat (first | (with_reducible first | exact HB.out | apply below_alloc | apply pw_below_drewN | apply below_drew1 | refine below_set ?_ GE279.out | refine below_set ?_ GE289.out | refine below_set ?_ GE296.out | refine below_set ?_ GE313.out | refine below_set ?_ GE321.out) | exact HB.out))) | (with_reducible refine Kd.C_alloc ?_ _) | (with_reducible refine Kd.C_drewN ?_ _) | (with_reducible refine Kd.C_drew ?_))); (case side4 => exact HC329.out); rintro e w' ⟨rfl, ⟨nd, rfl⟩⟩))
                          go_meet
                          case rel => exact ⟨_, (true), (by first | rfl | (simp; done) | (simp [*]; done)), H', ⟨by have := HJ11.out; first | omega | exact Nat.le_refl _⟩, ⟨by (with_reducible repeat (first | apply Kd.R_alloc | apply Kd.R_drewN | apply Kd.R_drew)); exact Kd.R_mono HO_10.out (fun _ hk => hk.2.2)⟩, ⟨by (with_reducible repeat (first | apply Kd.R_alloc | apply Kd.R_drewN | apply Kd.R_drew)); exact Kd.R_mono HO_19.out (fun _ hk => hk.1)⟩, ⟨by (with_reducible repeat (first | refine blk_drewN ?_ _ | refine blk_drew ?_ | refine blk_alloc ?_ _)); exact BK279.out⟩, ⟨by (with_reducible repeat (first | refine blk_drewN ?_ _ | refine blk_drew ?_ | refine blk_alloc ?_ _)); exact BK289.out⟩, ⟨by (with_reducible repeat (first | refine blk_drewN ?_ _ | refine blk_drew ?_ | refine blk_alloc ?_ _)); exact BK296.out⟩, ⟨by (with_reducible repeat (first | refine blk_drewN ?_ _ | refine blk_drew ?_ | refine blk_alloc ?_ _)); exact BK313.out⟩, ⟨by (with_reducible repeat (first | refine blk_drewN ?_ _ | refine blk_drew ?_ | refine blk_alloc ?_ _)); exact BK321.out⟩, ⟨by repeat (first | (with_reducible first | exact HB.out | apply below_alloc | apply pw_below_drewN | apply below_drew1 | refine below_set ?_ GE279.out | refine below_set ?_ GE289.out | refine below_set ?_ GE296.out | refine below_set ?_ GE313.out | refine below_set ?_ GE321.out) | exact HB.out)⟩⟩
                      · rw [if_neg c115] at H
                        exact absurd H (by simp)
                    · replace c114 := Bool.eq_false_iff.mpr c114
                      subst c114
                      have H1 : (sobriquetlaw01_TlvExact.j1 kj11 l0 t297 t300 t322 t325 true a1_0 a1_1 a1_2 a1_3 a1_4) = some r := by rw [if_neg (show ¬ (false = true) by decide)] at H; exact H
                      clear H
                      have H := H1
                      clear H1
                      have H' := Aside0.mk H
                      clear H
                      have hnb137 := NB321_279.out
                      have hnc137 := NB279_321.out
                      have hnb138 := NB321_289.out
                      have hnc138 := NB289_321.out
                      have hnb139 := NB321_296.out
                      have hnc139 := NB296_321.out
                      have hnb140 := NB321_313.out
                      have hnc140 := NB313_321.out
                      have hcz141_0 : wc.cell? ⟨gb321, 0, none⟩ = some (.int .i64 t314) := (blk_cell BK321.out 0).trans rfl
                      have hcz141_1 : wc.cell? ⟨gb321, 1, none⟩ = some (.int .i64 t315) := (blk_cell BK321.out 1).trans rfl
                      have hcz141_2 : wc.cell? ⟨gb321, 2, none⟩ = some (.bool t316) := (blk_cell BK321.out 2).trans rfl
                      have hcz141_3 : wc.cell? ⟨gb321, 3, none⟩ = some (.int .i64 t317) := (blk_cell BK321.out 3).trans rfl
                      have hcz141_4 : wc.cell? ⟨gb321, 4, none⟩ = some (.int .i64 t318) := (blk_cell BK321.out 4).trans rfl
                      have hfz141_0 := blk_frozen BK321.out 0
                      have hfz141_1 := blk_frozen BK321.out 1
                      have hfz141_2 := blk_frozen BK321.out 2
                      have hfz141_3 := blk_frozen BK321.out 3
                      have hfz141_4 := blk_frozen BK321.out 4
                      obtain ⟨i0142, hi0142, _, hsz142, _⟩ := info_parts info5
                      obtain ⟨A142, hcut142, hA142, hC142⟩ := print_mid_of (P := Try.prog) (Value.int .u8) 0 24 5 .i64 .i64 Try.underlying24 hi0142 hsz142 A0 c0 l0 t318 t319 (of_decide_eq_true (by first | (with_reducible assumption) | assumption)) (by first | omega | exact of_decide_eq_true (by first | (with_reducible assumption) | assumption)) (of_decide_eq_true (by first | (with_reducible assumption) | assumption)) HC0.out
                      have HR327 := Aside0.mk (Kd.C_of_reads (h1 := fun _ => rfl) (hA142 _ (Kd.reads_of_C HR0.out)))
                      have HC327 := Aside0.mk hC142
                      clear hA142 hC142 hi0142 hsz142
                      obtain ⟨yc142, hyc142⟩ : ∃ y_ : List Int, y_ = ((l0.take (t319 : Int).toNat).drop (t318 : Int).toNat) := ⟨_, rfl⟩
                      (try simp only [Int.reduceToNat] at hcut142 HR327 HC327)
                      rw [← hyc142] at hcut142 HR327 HC327
                      (try rw [← hyc142] at H')
                      rw [← hyc142] at A113
                      have Nyc142 := Aside0.mk hyc142
                      clear hyc142
                      obtain ⟨Ao143, co143, eo143⟩ := Kd.R_slice HO_13.out
                      subst eo143
                      go_wp2_with (first | (go_at_call 12; (with_reducible refine (sobriquetkeep_Bytes.calls kj11 _ _ t306 _ _ yc142 false _ ?side1 ?side2 ?side3 ?side4 A113.out).mono ?_); (case side1 => repeat (first | exact (Kd.R_reads' HO_13.out).2.2 | (with_reducible refine Kd.C_alloc ?_ _) | (with_reducible refine Kd.C_drewN ?_ _) | (with_reducible refine Kd.C_drew ?_))); (case side2 => exact (Kd.R_reads' HO_13.out).2.1); (case side3 => repeat (first | exact (Kd.C_below HR327.out HB.out) | (with_reducible refine Kd.C_alloc ?_ _) | (with_reducible refine Kd.C_drewN ?_ _) | (with_reducible refine Kd.C_drew ?_))); (case side4 => exact HC327.out); rintro e w' ⟨rfl, ⟨nd, rfl⟩⟩))
                      go_meet
                      case rel => exact ⟨_, (true), (by first | rfl | (simp; done) | (simp [*]; done)), H', ⟨by have := HJ11.out; first | omega | exact Nat.le_refl _⟩, ⟨by (with_reducible repeat (first | apply Kd.R_alloc | apply Kd.R_drewN | apply Kd.R_drew)); exact Kd.R_mono HO_10.out (fun _ hk => hk.2.2)⟩, ⟨by (with_reducible repeat (first | apply Kd.R_alloc | apply Kd.R_drewN | apply Kd.R_drew)); exact Kd.R_mono HO_19.out (fun _ hk => hk.1)⟩, ⟨by (with_reducible repeat (first | refine blk_drewN ?_ _ | refine blk_drew ?_ | refine blk_alloc ?_ _)); exact BK279.out⟩, ⟨by (with_reducible repeat (first | refine blk_drewN ?_ _ | refine blk_drew ?_ | refine blk_alloc ?_ _)); exact BK289.out⟩, ⟨by (with_reducible repeat (first | refine blk_drewN ?_ _ | refine blk_drew ?_ | refine blk_alloc ?_ _)); exact BK296.out⟩, ⟨by (with_reducible repeat (first | refine blk_drewN ?_ _ | refine blk_drew ?_ | refine blk_alloc ?_ _)); exact BK313.out⟩, ⟨by (with_reducible repeat (first | refine blk_drewN ?_ _ | refine blk_drew ?_ | refine blk_alloc ?_ _)); exact BK321.out⟩, ⟨by repeat (first | (with_reducible first | exact HB.out | apply below_alloc | apply pw_below_drewN | apply below_drew1 | refine below_set ?_ GE279.out | refine below_set ?_ GE289.out | refine below_set ?_ GE296.out | refine below_set ?_ GE313.out | refine below_set ?_ GE321.out) | exact HB.out)⟩⟩
                  · rw [if_neg c112] at H
                    exact absurd H (by simp)
                · rw [if_neg c111] at H
                  exact absurd H (by simp)
              · rw [if_neg c110] at H
                exact absurd H (by simp)
            · rw [if_neg c109] at H
              have c109b0 : (t320 == 0) = false := beq_eq_false_iff_ne.mpr c109
              have c109b1 : (t320 != 0) = true := bne_iff_ne.mpr c109
              (first | rw [c109b0] | (simp only [i64_w, i32_w]; rw [c109b0]) | skip)
              have H' := Aside0.mk H
              clear H
              obtain ⟨Ao144, co144, eo144⟩ := Kd.R_slice HO_13.out
              subst eo144
              obtain ⟨Ao145, co145, eo145⟩ := Kd.R_slice HO_14.out
              subst eo145
              go_wp2
              go_meet
              case rel => exact ⟨_, (decide ((wrap64 ((t306.length : Int) + (t309.length : Int))) > 0)), (by first | rfl | (simp; done) | (simp [*]; done)), H', ⟨by have := HJ11.out; first | omega | exact Nat.le_refl _⟩, ⟨by (with_reducible repeat (first | apply Kd.R_alloc | apply Kd.R_drewN | apply Kd.R_drew)); exact Kd.R_mono HO_10.out (fun _ hk => hk.2.2)⟩, ⟨by (with_reducible repeat (first | apply Kd.R_alloc | apply Kd.R_drewN | apply Kd.R_drew)); exact Kd.R_mono HO_19.out (fun _ hk => hk.1)⟩, ⟨by (with_reducible repeat (first | refine blk_drewN ?_ _ | refine blk_drew ?_ | refine blk_alloc ?_ _)); exact BK279.out⟩, ⟨by (with_reducible repeat (first | refine blk_drewN ?_ _ | refine blk_drew ?_ | refine blk_alloc ?_ _)); exact BK289.out⟩, ⟨by (with_reducible repeat (first | refine blk_drewN ?_ _ | refine blk_drew ?_ | refine blk_alloc ?_ _)); exact BK296.out⟩, ⟨by (with_reducible repeat (first | refine blk_drewN ?_ _ | refine blk_drew ?_ | refine blk_alloc ?_ _)); exact BK313.out⟩, ⟨by (with_reducible repeat (first | refine blk_drewN ?_ _ | refine blk_drew ?_ | refine blk_alloc ?_ _)); exact BK321.out⟩, ⟨by repeat (first | (with_reducible first | exact HB.out | apply below_alloc | apply pw_below_drewN | apply below_drew1 | refine below_set ?_ GE279.out | refine below_set ?_ GE289.out | refine below_set ?_ GE296.out | refine below_set ?_ GE313.out | refine below_set ?_ GE321.out) | exact HB.out)⟩⟩
          case rest =>
            clear HC108
            try clear c1
            try clear c2
            try clear p2
            try clear c3
            try clear c3b0
            try clear c3b1
            try clear c4
            try clear c5
            try clear c6
            try clear p6
            try clear c7
            try clear c8
            try clear c9
            try clear c10
            try clear c11
            try clear c12
            try clear c13
            try clear c14
            try clear c15
            try clear c16
            try clear c18
            try clear c22
            try clear c23
            try clear c29
            try clear c30
            try clear c31
            try clear c35
            try clear c36
            try clear c37
            try clear c38
            try clear c42
            try clear c42b0
            try clear c43
            try clear c44
            try clear c45
            try clear c46
            try clear c48
            try clear c49
            try clear c50
            try clear c52
            try clear c52b0
            try clear c52b1
            try clear c53
            try clear c53b0
            try clear c54
            try clear c55
            try clear c56
            try clear c57
            try clear c59
            try clear c60
            try clear c61
            try clear c63
            try clear c64
            try clear p64
            try clear c66
            try clear c68
            try clear c68b0
            try clear c68b1
            try clear c70
            try clear c71
            try clear c72
            try clear c73
            try clear c75
            try clear c76
            try clear c77
            try clear c79
            try clear c80
            try clear c82
            try clear c84
            try clear c85
            try clear c86
            try clear c87
            try clear c89
            try clear c90
            try clear c91
            try clear c93
            try clear c94
            try clear c96
            try clear c98
            try clear c99
            try clear c100
            try clear c101
            try clear c103
            try clear c104
            try clear c105
            try clear c107
            try clear c109
            try clear c109b0
            try clear c109b1
            try clear c110
            try clear c110b0
            try clear c110b1
            try clear c111
            try clear c111b0
            try clear c111b1
            try clear c112
            try clear c112b0
            try clear c112b1
            try clear c114
            try clear c115
            try clear c115b0
            try clear c115b1
            try clear c116
            try clear c116b0
            try clear c118
            try clear c119
            try clear c120
            try clear c121
            try clear c122
            try clear c128
            try clear c129
            try clear c130
            try clear c131
            try clear c137
            try clear c138
            try clear c139
            try clear c140
            try clear hcz102_0
            try clear hcz102_1
            try clear hcz102_2
            try clear hcz102_3
            try clear hcz102_4
            try clear hcz106_0
            try clear hcz106_1
            try clear hcz106_2
            try clear hcz106_3
            try clear hcz106_4
            try clear hcz123_0
            try clear hcz123_1
            try clear hcz123_2
            try clear hcz123_3
            try clear hcz123_4
            try clear hcz132_0
            try clear hcz132_1
            try clear hcz132_2
            try clear hcz132_3
            try clear hcz132_4
            try clear hcz141_0
            try clear hcz141_1
            try clear hcz141_2
            try clear hcz141_3
            try clear hcz141_4
            try clear hcz19_0
            try clear hcz19_1
            try clear hcz19_2
            try clear hcz19_3
            try clear hcz19_4
            try clear hcz24_0
            try clear hcz24_1
            try clear hcz24_2
            try clear hcz24_3
            try clear hcz24_4
            try clear hcz25_0
            try clear hcz25_1
            try clear hcz25_2
            try clear hcz25_3
            try clear hcz25_4
            try clear hcz32_0
            try clear hcz32_1
            try clear hcz32_2
            try clear hcz32_3
            try clear hcz32_4
            try clear hcz39_0
            try clear hcz39_1
            try clear hcz39_2
            try clear hcz39_3
            try clear hcz39_4
            try clear hcz40_0
            try clear hcz40_1
            try clear hcz40_2
            try clear hcz40_3
            try clear hcz40_4
            try clear hcz47_0
            try clear hcz47_1
            try clear hcz47_2
            try clear hcz47_3
            try clear hcz47_4
            try clear hcz51_0
            try clear hcz51_1
            try clear hcz51_2
            try clear hcz51_3
            try clear hcz51_4
            try clear hcz58_0
            try clear hcz58_1
            try clear hcz58_2
            try clear hcz58_3
            try clear hcz58_4
            try clear hcz62_0
            try clear hcz62_1
            try clear hcz62_2
            try clear hcz62_3
            try clear hcz62_4
            try clear hcz65_0
            try clear hcz65_1
            try clear hcz65_2
            try clear hcz65_3
            try clear hcz65_4
            try clear hcz67_0
            try clear hcz67_1
            try clear hcz67_2
            try clear hcz67_3
            try clear hcz67_4
            try clear hcz74_0
            try clear hcz74_1
            try clear hcz74_2
            try clear hcz74_3
            try clear hcz74_4
            try clear hcz78_0
            try clear hcz78_1
            try clear hcz78_2
            try clear hcz78_3
            try clear hcz78_4
            try clear hcz81_0
            try clear hcz81_1
            try clear hcz81_2
            try clear hcz81_3
            try clear hcz81_4
            try clear hcz83_0
            try clear hcz83_1
            try clear hcz83_2
            try clear hcz83_3
            try clear hcz83_4
            try clear hcz88_0
            try clear hcz88_1
            try clear hcz88_2
            try clear hcz88_3
            try clear hcz88_4
            try clear hcz92_0
            try clear hcz92_1
            try clear hcz92_2
            try clear hcz92_3
            try clear hcz92_4
            try clear hcz95_0
            try clear hcz95_1
            try clear hcz95_2
            try clear hcz95_3
            try clear hcz95_4
            try clear hcz97_0
            try clear hcz97_1
            try clear hcz97_2
            try clear hcz97_3
            try clear hcz97_4
            try clear hfz102_0
            try clear hfz102_1
            try clear hfz102_2
            try clear hfz102_3
            try clear hfz102_4
            try clear hfz106_0
            try clear hfz106_1
            try clear hfz106_2
            try clear hfz106_3
            try clear hfz106_4
            try clear hfz123_0
            try clear hfz123_1
            try clear hfz123_2
            try clear hfz123_3
            try clear hfz123_4
            try clear hfz132_0
            try clear hfz132_1
            try clear hfz132_2
            try clear hfz132_3
            try clear hfz132_4
            try clear hfz141_0
            try clear hfz141_1
            try clear hfz141_2
            try clear hfz141_3
            try clear hfz141_4
            try clear hfz19_0
            try clear hfz19_1
            try clear hfz19_2
            try clear hfz19_3
            try clear hfz19_4
            try clear hfz24_0
            try clear hfz24_1
            try clear hfz24_2
            try clear hfz24_3
            try clear hfz24_4
            try clear hfz25_0
            try clear hfz25_1
            try clear hfz25_2
            try clear hfz25_3
            try clear hfz25_4
            try clear hfz32_0
            try clear hfz32_1
            try clear hfz32_2
            try clear hfz32_3
            try clear hfz32_4
            try clear hfz39_0
            try clear hfz39_1
            try clear hfz39_2
            try clear hfz39_3
            try clear hfz39_4
            try clear hfz40_0
            try clear hfz40_1
            try clear hfz40_2
            try clear hfz40_3
            try clear hfz40_4
            try clear hfz47_0
            try clear hfz47_1
            try clear hfz47_2
            try clear hfz47_3
            try clear hfz47_4
            try clear hfz51_0
            try clear hfz51_1
            try clear hfz51_2
            try clear hfz51_3
            try clear hfz51_4
            try clear hfz58_0
            try clear hfz58_1
            try clear hfz58_2
            try clear hfz58_3
            try clear hfz58_4
            try clear hfz62_0
            try clear hfz62_1
            try clear hfz62_2
            try clear hfz62_3
            try clear hfz62_4
            try clear hfz65_0
            try clear hfz65_1
            try clear hfz65_2
            try clear hfz65_3
            try clear hfz65_4
            try clear hfz67_0
            try clear hfz67_1
            try clear hfz67_2
            try clear hfz67_3
            try clear hfz67_4
            try clear hfz74_0
            try clear hfz74_1
            try clear hfz74_2
            try clear hfz74_3
            try clear hfz74_4
            try clear hfz78_0
            try clear hfz78_1
            try clear hfz78_2
            try clear hfz78_3
            try clear hfz78_4
            try clear hfz81_0
            try clear hfz81_1
            try clear hfz81_2
            try clear hfz81_3
            try clear hfz81_4
            try clear hfz83_0
            try clear hfz83_1
            try clear hfz83_2
            try clear hfz83_3
            try clear hfz83_4
            try clear hfz88_0
            try clear hfz88_1
            try clear hfz88_2
            try clear hfz88_3
            try clear hfz88_4
            try clear hfz92_0
            try clear hfz92_1
            try clear hfz92_2
            try clear hfz92_3
            try clear hfz92_4
            try clear hfz95_0
            try clear hfz95_1
            try clear hfz95_2
            try clear hfz95_3
            try clear hfz95_4
            try clear hfz97_0
            try clear hfz97_1
            try clear hfz97_2
            try clear hfz97_3
            try clear hfz97_4
            try clear p2
            obtain ⟨kq, x115_107, rfl, HA, HJ107, HO_10, HO_19, BK279, BK289, BK296, BK313, BK321, HB⟩ := hcut
            cases kq with
            | zero => exact absurd HA.out (by simp [sobriquetlaw01_TlvExact.j1])
            | succ kj107 =>
              have H := HA.out
              clear HA
              simp only [sobriquetlaw01_TlvExact.j1] at H
              by_cases c146 : x115_107 = true
              · subst c146
                have H1 : (some false) = some r := by rw [if_pos rfl] at H; exact H
                clear H
                have H := H1
                clear H1
                exact absurd ((Option.some.inj H).trans hrt.out) (by decide)
              · replace c146 := Bool.eq_false_iff.mpr c146
                subst c146
                have H1 : ((sobriquetref01_Head.f a1_0 a1_1 a1_2 a1_3 a1_4).bind fun t331 => (if t331 = true then (if t300 = 0 then ((sobriquetref01_HeadBytes.f kj107 a1_0 a1_1 a1_2 a1_3 a1_4).bind fun t332 => ((sobriquetkeep_Bytes.f kj107 t297 t332).bind fun t335 => (if t335 = true then (sobriquetlaw01_TlvExact.j2 kj107 l0 t322 t325 a1_0 a1_1 a1_2 a1_3 a1_4) else (some false)))) else (some false)) else (if t300 = 1 then (if (t297.length : Int) > 0 then (some false) else (sobriquetlaw01_TlvExact.j2 kj107 l0 t322 t325 a1_0 a1_1 a1_2 a1_3 a1_4)) else (some false)))) = some r := by rw [if_neg (show ¬ (false = true) by decide)] at H; exact H
                clear H
                have H := H1
                clear H1
                replace H := Option.bind_eq_some_iff.mp H
                obtain ⟨t331, A1470, H⟩ := H
                replace H : (if t331 = true then (if t300 = 0 then ((sobriquetref01_HeadBytes.f kj107 a1_0 a1_1 a1_2 a1_3 a1_4).bind fun t332 => ((sobriquetkeep_Bytes.f kj107 t297 t332).bind fun t335 => (if t335 = true then (sobriquetlaw01_TlvExact.j2 kj107 l0 t322 t325 a1_0 a1_1 a1_2 a1_3 a1_4) else (some false)))) else (some false)) else (if t300 = 1 then (if (t297.length : Int) > 0 then (some false) else (sobriquetlaw01_TlvExact.j2 kj107 l0 t322 t325 a1_0 a1_1 a1_2 a1_3 a1_4)) else (some false))) = some r := H
                have A147 := Aside0.mk A1470
                clear A1470
                have HC148 := Aside0.mk H
                clear H
                have hnb149 := NB279_289.out
                have hnc149 := NB289_279.out
                have hnb150 := NB279_296.out
                have hnc150 := NB296_279.out
                have hnb151 := NB279_313.out
                have hnc151 := NB313_279.out
                have hnb152 := NB279_321.out
                have hnc152 := NB321_279.out
                have hcz153_0 : wc.cell? ⟨gb279, 0, none⟩ = some (.int .i64 a1_0) := (blk_cell BK279.out 0).trans rfl
                have hcz153_1 : wc.cell? ⟨gb279, 1, none⟩ = some (.int .i64 a1_1) := (blk_cell BK279.out 1).trans rfl
                have hcz153_2 : wc.cell? ⟨gb279, 2, none⟩ = some (.bool a1_2) := (blk_cell BK279.out 2).trans rfl
                have hcz153_3 : wc.cell? ⟨gb279, 3, none⟩ = some (.int .i64 a1_3) := (blk_cell BK279.out 3).trans rfl
                have hcz153_4 : wc.cell? ⟨gb279, 4, none⟩ = some (.int .i64 a1_4) := (blk_cell BK279.out 4).trans rfl
                have hfz153_0 := blk_frozen BK279.out 0
                have hfz153_1 := blk_frozen BK279.out 1
                have hfz153_2 := blk_frozen BK279.out 2
                have hfz153_3 := blk_frozen BK279.out 3
                have hfz153_4 := blk_frozen BK279.out 4
                go_upto_if 118 with (first | ((with_reducible refine gate_callee (f := 17) rfl ?_); refine goesL_ (some 117) rfl rfl Try.func17 (by kernel_rfl) rfl #[.agg #[.int .i64 a1_0, .int .i64 a1_1, .bool a1_2, .int .i64 a1_3, .int .i64 a1_4]] rfl (by (try simp only [List.map_toArray, List.map_cons, List.map_nil]); first | done | rfl | (simp only [List.length_drop, List.length_take]; rfl)) ?_; (with_reducible refine (sobriquetref01_Head.calls a1_0 a1_1 a1_2 a1_3 a1_4 t331 _ A147.out).mono ?_); rintro e w154 ⟨rfl, hb⟩; refine ⟨_, rfl, ?_⟩; have n0_ := Aside0.mk (Kd.R_below (by (with_reducible repeat (first | apply Kd.R_alloc | apply Kd.R_drewN | apply Kd.R_drew)); exact HO_10.out) hb); have n1_ := Aside0.mk (Kd.R_below (by (with_reducible repeat (first | apply Kd.R_alloc | apply Kd.R_drewN | apply Kd.R_drew)); exact HO_19.out) hb); have n2_ := Aside0.mk (blk_below (g := gb279) (o := .cells #[.int .i64 a1_0, .int .i64 a1_1, .bool a1_2, .int .i64 a1_3, .int .i64 a1_4] 23 (0, 0)) (by (with_reducible repeat (first | refine blk_drewN ?_ _ | refine blk_drew ?_ | refine blk_alloc ?_ _)); exact BK279.out) hb); have n3_ := Aside0.mk (blk_below (g := gb289) (o := .cells #[.int .i64 t283, .int .i64 t284, .bool t285, .int .i64 t286, .int .i64 t287] 23 (0, 0)) (by (with_reducible repeat (first | refine blk_drewN ?_ _ | refine blk_drew ?_ | refine blk_alloc ?_ _)); exact BK289.out) hb); have n4_ := Aside0.mk (blk_below (g := gb296) (o := .cells #[.int .i64 t290, .int .i64 t291, .bool t292, .int .i64 t293, .int .i64 t294] 23 (0, 0)) (by (with_reducible repeat (first | refine blk_drewN ?_ _ | refine blk_drew ?_ | refine blk_alloc ?_ _)); exact BK296.out) hb); have n5_ := Aside0.mk (blk_below (g := gb313) (o := .cells #[.int .i64 t301, .int .i64 t302, .bool t303, .int .i64 t304, .int .i64 t305] 23 (0, 0)) (by (with_reducible repeat (first | refine blk_drewN ?_ _ | refine blk_drew ?_ | refine blk_alloc ?_ _)); exact BK313.out) hb); have n6_ := Aside0.mk (blk_below (g := gb321) (o := .cells #[.int .i64 t314, .int .i64 t315, .bool t316, .int .i64 t317, .int .i64 t318] 23 (0, 0)) (by (with_reducible repeat (first | refine blk_drewN ?_ _ | refine blk_drew ?_ | refine blk_alloc ?_ _)); exact BK321.out) hb); have n7_ := Aside0.mk (below_step (by repeat (first | (with_reducible first | exact HB.out | apply below_alloc | apply pw_below_drewN | apply below_drew1 | refine below_set ?_ GE279.out | refine below_set ?_ GE289.out | refine below_set ?_ GE296.out | refine below_set ?_ GE313.out | refine below_set ?_ GE321.out) | exact HB.out)) hb); clear HO_10; clear HO_19; clear BK279; clear BK289; clear BK296; clear BK313; clear BK321; clear HB; have HO_10 := n0_; have HO_19 := n1_; have BK279 := n2_; have BK289 := n3_; have BK296 := n4_; have BK313 := n5_; have BK321 := n6_; have HB := n7_; clear n0_ n1_ n2_ n3_ n4_ n5_ n6_ n7_; (try clear hb); (try clear hb2); (try clear hk); (try clear hi)))
                (try simp only [Act.put, List.setIfInBounds_toArray, List.set_cons_zero, List.set_cons_succ])
                go_cut [] (fun wc => ∃ (kq : Nat), Aside0 (sobriquetlaw01_TlvExact.j2 kq l0 t322 t325 a1_0 a1_1 a1_2 a1_3 a1_4 = some r) ∧ Aside0 (kq ≤ kj107) ∧ Aside0 (Kd.R (Kd.int .u8) 5 wc w.heap.size (fun _ => True) v323 t322) ∧ Aside0 (wc.heap[gb279]? = some (.cells #[.int .i64 a1_0, .int .i64 a1_1, .bool a1_2, .int .i64 a1_3, .int .i64 a1_4] 23 (0, 0))) ∧ Aside0 (wc.heap[gb289]? = some (.cells #[.int .i64 t283, .int .i64 t284, .bool t285, .int .i64 t286, .int .i64 t287] 23 (0, 0))) ∧ Aside0 (wc.heap[gb296]? = some (.cells #[.int .i64 t290, .int .i64 t291, .bool t292, .int .i64 t293, .int .i64 t294] 23 (0, 0))) ∧ Aside0 (wc.heap[gb313]? = some (.cells #[.int .i64 t301, .int .i64 t302, .bool t303, .int .i64 t304, .int .i64 t305] 23 (0, 0))) ∧ Aside0 (wc.heap[gb321]? = some (.cells #[.int .i64 t314, .int .i64 t315, .bool t316, .int .i64 t317, .int .i64 t318] 23 (0, 0))) ∧ Aside0 (Below w.heap.size w wc))
                case first =>
                  have H := HC148.out
                  clear HC148
                  by_cases c155 : t331 = true
                  · subst c155
                    have H1 : (if t300 = 0 then ((sobriquetref01_HeadBytes.f kj107 a1_0 a1_1 a1_2 a1_3 a1_4).bind fun t332 => ((sobriquetkeep_Bytes.f kj107 t297 t332).bind fun t335 => (if t335 = true then (sobriquetlaw01_TlvExact.j2 kj107 l0 t322 t325 a1_0 a1_1 a1_2 a1_3 a1_4) else (some false)))) else (some false)) = some r := by rw [if_pos rfl] at H; exact H
                    clear H
                    have H := H1
                    clear H1
                    by_cases c156 : t300 = 0
                    · rw [if_pos c156] at H
                      have c156b0 : (t300 == 0) = true := beq_iff_eq.mpr c156
                      have c156b1 : (t300 != 0) = false := bne_eq_false_iff_eq.mpr c156
                      clear c156
                      (first | rw [c156b0] | (simp only [i64_w, i32_w]; rw [c156b0]) | skip)
                      replace H := Option.bind_eq_some_iff.mp H
                      obtain ⟨t332, A1570, H⟩ := H
                      replace H : ((sobriquetkeep_Bytes.f kj107 t297 t332).bind fun t335 => (if t335 = true then (sobriquetlaw01_TlvExact.j2 kj107 l0 t322 t325 a1_0 a1_1 a1_2 a1_3 a1_4) else (some false))) = some r := H
                      have A157 := Aside0.mk A1570
                      clear A1570
                      replace H := Option.bind_eq_some_iff.mp H
                      obtain ⟨t335, A1580, H⟩ := H
                      replace H : (if t335 = true then (sobriquetlaw01_TlvExact.j2 kj107 l0 t322 t325 a1_0 a1_1 a1_2 a1_3 a1_4) else (some false)) = some r := H
                      have A158 := Aside0.mk A1580
                      clear A1580
                      by_cases c159 : t335 = true
                      · subst c159
                        have H1 : (sobriquetlaw01_TlvExact.j2 kj107 l0 t322 t325 a1_0 a1_1 a1_2 a1_3 a1_4) = some r := by rw [if_pos rfl] at H; exact H
                        clear H
                        have H := H1
                        clear H1
                        have H' := Aside0.mk H
                        clear H
                        have hnb160 := NB279_289.out
                        have hnc160 := NB289_279.out
                        have hnb161 := NB279_296.out
                        have hnc161 := NB296_279.out
                        have hnb162 := NB279_313.out
                        have hnc162 := NB313_279.out
                        have hnb163 := NB279_321.out
                        have hnc163 := NB321_279.out
                        have hcz164_0 : w154.cell? ⟨gb279, 0, none⟩ = some (.int .i64 a1_0) := (blk_cell BK279.out 0).trans rfl
                        have hcz164_1 : w154.cell? ⟨gb279, 1, none⟩ = some (.int .i64 a1_1) := (blk_cell BK279.out 1).trans rfl
                        have hcz164_2 : w154.cell? ⟨gb279, 2, none⟩ = some (.bool a1_2) := (blk_cell BK279.out 2).trans rfl
                        have hcz164_3 : w154.cell? ⟨gb279, 3, none⟩ = some (.int .i64 a1_3) := (blk_cell BK279.out 3).trans rfl
                        have hcz164_4 : w154.cell? ⟨gb279, 4, none⟩ = some (.int .i64 a1_4) := (blk_cell BK279.out 4).trans rfl
                        have hfz164_0 := blk_frozen BK279.out 0
                        have hfz164_1 := blk_frozen BK279.out 1
                        have hfz164_2 := blk_frozen BK279.out 2
                        have hfz164_3 := blk_frozen BK279.out 3
                        have hfz164_4 := blk_frozen BK279.out 4
                        go_wp2_with (first | (go_at_call 18; (with_reducible refine (sobriquetref01_HeadBytes.calls kj107 a1_0 a1_1 a1_2 a1_3 a1_4 t332 _ A157.out).mono ?_); rintro e w165 ⟨v333, rfl, ho0, hb⟩; have n0_ := Aside0.mk (Kd.R_elder' (by (with_reducible repeat (first | apply Kd.R_alloc | apply Kd.R_drewN | apply Kd.R_drew)); exact HO_10.out) (Kd.R_base ho0) hb); have n1_ := Aside0.mk (Kd.R_elder' (by (with_reducible repeat (first | apply Kd.R_alloc | apply Kd.R_drewN | apply Kd.R_drew)); exact HO_19.out) (Kd.R_base ho0) hb); have n2_ := Aside0.mk (Kd.R_lower (Kd.R_new' (Kd.R_new' ho0 (Kd.R_lt (by (with_reducible repeat (first | apply Kd.R_alloc | apply Kd.R_drewN | apply Kd.R_drew)); exact HO_10.out))) (Kd.R_lt (by (with_reducible repeat (first | apply Kd.R_alloc | apply Kd.R_drewN | apply Kd.R_drew)); exact HO_19.out))) (below_size (by repeat (first | (with_reducible first | exact HB.out | apply below_alloc | apply pw_below_drewN | apply below_drew1 | refine below_set ?_ GE279.out | refine below_set ?_ GE289.out | refine below_set ?_ GE296.out | refine below_set ?_ GE313.out | refine below_set ?_ GE321.out) | exact HB.out)))); have n3_ := Aside0.mk (blk_below (g := gb279) (o := .cells #[.int .i64 a1_0, .int .i64 a1_1, .bool a1_2, .int .i64 a1_3, .int .i64 a1_4] 23 (0, 0)) (by (with_reducible repeat (first | refine blk_drewN ?_ _ | refine blk_drew ?_ | refine blk_alloc ?_ _)); exact BK279.out) hb); have n4_ := Aside0.mk (blk_below (g := gb289) (o := .cells #[.int .i64 t283, .int .i64 t284, .bool t285, .int .i64 t286, .int .i64 t287] 23 (0, 0)) (by (with_reducible repeat (first | refine blk_drewN ?_ _ | refine blk_drew ?_ | refine blk_alloc ?_ _)); exact BK289.out) hb); have n5_ := Aside0.mk (blk_below (g := gb296) (o := .cells #[.int .i64 t290, .int .i64 t291, .bool t292, .int .i64 t293, .int .i64 t294] 23 (0, 0)) (by (with_reducible repeat (first | refine blk_drewN ?_ _ | refine blk_drew ?_ | refine blk_alloc ?_ _)); exact BK296.out) hb); have n6_ := Aside0.mk (blk_below (g := gb313) (o := .cells #[.int .i64 t301, .int .i64 t302, .bool t303, .int .i64 t304, .int .i64 t305] 23 (0, 0)) (by (with_reducible repeat (first | refine blk_drewN ?_ _ | refine blk_drew ?_ | refine blk_alloc ?_ _)); exact BK313.out) hb); have n7_ := Aside0.mk (blk_below (g := gb321) (o := .cells #[.int .i64 t314, .int .i64 t315, .bool t316, .int .i64 t317, .int .i64 t318] 23 (0, 0)) (by (with_reducible repeat (first | refine blk_drewN ?_ _ | refine blk_drew ?_ | refine blk_alloc ?_ _)); exact BK321.out) hb); have n8_ := Aside0.mk (below_step (by repeat (first | (with_reducible first | exact HB.out | apply below_alloc | apply pw_below_drewN | apply below_drew1 | refine below_set ?_ GE279.out | refine below_set ?_ GE289.out | refine below_set ?_ GE296.out | refine below_set ?_ GE313.out | refine below_set ?_ GE321.out) | exact HB.out)) hb); clear HO_10; clear HO_19; clear BK279; clear BK289; clear BK296; clear BK313; clear BK321; clear HB; have HO_10 := n0_; have HO_19 := n1_; have HO334 := n2_; have BK279 := n3_; have BK289 := n4_; have BK296 := n5_; have BK313 := n6_; have BK321 := n7_; have HB := n8_; clear n0_ n1_ n2_ n3_ n4_ n5_ n6_ n7_ n8_; (try clear hb); (try clear hb2); (try clear hk); (try clear hi); (try clear ho0); obtain ⟨Ao166, co166, eo166⟩ := Kd.R_slice HO_10.out; subst eo166; obtain ⟨Ao167, co167, eo167⟩ := Kd.R_slice HO334.out; subst eo167) | (go_at_call 12; (with_reducible refine (sobriquetkeep_Bytes.calls kj107 _ _ t297 _ _ t332 true _ ?side1 ?side2 ?side3 ?side4 A158.out).mono ?_); (case side1 => repeat (first | exact (Kd.R_reads' HO_10.out).2.2 | (with_reducible refine Kd.C_alloc ?_ _) | (with_reducible refine Kd.C_drewN ?_ _) | (with_reducible refine Kd.C_drew ?_))); (case side2 => exact (Kd.R_reads' HO_10.out).2.1); (case side3 => repeat (first | exact (Kd.R_reads' HO334.out).2.2 | (with_reducible refine Kd.C_alloc ?_ _) | (with_reducible refine Kd.C_drewN ?_ _) | (with_reducible refine Kd.C_drew ?_))); (case side4 => exact (Kd.R_reads' HO334.out).2.1); rintro e w' ⟨rfl, ⟨nd, rfl⟩⟩))
                        go_meet
                        case rel => exact ⟨_, H', ⟨by have := HJ11.out; have := HJ107.out; first | omega | exact Nat.le_refl _⟩, ⟨by (with_reducible repeat (first | apply Kd.R_alloc | apply Kd.R_drewN | apply Kd.R_drew)); exact Kd.R_mono HO_19.out (fun _ hk => trivial)⟩, ⟨by (with_reducible repeat (first | refine blk_drewN ?_ _ | refine blk_drew ?_ | refine blk_alloc ?_ _)); exact BK279.out⟩, ⟨by (with_reducible repeat (first | refine blk_drewN ?_ _ | refine blk_drew ?_ | refine blk_alloc ?_ _)); exact BK289.out⟩, ⟨by (with_reducible repeat (first | refine blk_drewN ?_ _ | refine blk_drew ?_ | refine blk_alloc ?_ _)); exact BK296.out⟩, ⟨by (with_reducible repeat (first | refine blk_drewN ?_ _ | refine blk_drew ?_ | refine blk_alloc ?_ _)); exact BK313.out⟩, ⟨by (with_reducible repeat (first | refine blk_drewN ?_ _ | refine blk_drew ?_ | refine blk_alloc ?_ _)); exact BK321.out⟩, ⟨by repeat (first | (with_reducible first | exact HB.out | apply below_alloc | apply pw_below_drewN | apply below_drew1 | refine below_set ?_ GE279.out | refine below_set ?_ GE289.out | refine below_set ?_ GE296.out | refine below_set ?_ GE313.out | refine below_set ?_ GE321.out) | exact HB.out)⟩⟩
                      · replace c159 := Bool.eq_false_iff.mpr c159
                        subst c159
                        have H1 : (some false) = some r := by rw [if_neg (show ¬ (false = true) by decide)] at H; exact H
                        clear H
                        have H := H1
                        clear H1
                        exact absurd ((Option.some.inj H).trans hrt.out) (by decide)
                    · rw [if_neg c156] at H
                      have c156b0 : (t300 == 0) = false := beq_eq_false_iff_ne.mpr c156
                      have c156b1 : (t300 != 0) = true := bne_iff_ne.mpr c156
                      (first | rw [c156b0] | (simp only [i64_w, i32_w]; rw [c156b0]) | skip)
                      exact absurd ((Option.some.inj H).trans hrt.out) (by decide)
                  · replace c155 := Bool.eq_false_iff.mpr c155
                    subst c155
                    have H1 : (if t300 = 1 then (if (t297.length : Int) > 0 then (some false) else (sobriquetlaw01_TlvExact.j2 kj107 l0 t322 t325 a1_0 a1_1 a1_2 a1_3 a1_4)) else (some false)) = some r := by rw [if_neg (show ¬ (false = true) by decide)] at H; exact H
                    clear H
                    have H := H1
                    clear H1
                    by_cases c168 : t300 = 1
                    · rw [if_pos c168] at H
                      have c168b0 : (t300 == 1) = true := beq_iff_eq.mpr c168
                      have c168b1 : (t300 != 1) = false := bne_eq_false_iff_eq.mpr c168
                      clear c168
                      by_cases c169 : (t297.length : Int) > 0
                      · rw [if_pos c169] at H
                        have c169b0 : decide (0 < (t297.length : Int)) = true := decide_eq_true c169
                        have c169b1 : decide (0 < t297.length) = true := decide_eq_true (by omega)
                        clear c169
                        exact absurd ((Option.some.inj H).trans hrt.out) (by decide)
                      · rw [if_neg c169] at H
                        have c169b0 : decide (0 < (t297.length : Int)) = false := decide_eq_false c169
                        have c169b1 : decide (0 < t297.length) = false := decide_eq_false (by omega)
                        clear c169
                        have H' := Aside0.mk H
                        clear H
                        obtain ⟨Ao170, co170, eo170⟩ := Kd.R_slice HO_10.out
                        subst eo170
                        go_wp2
                        go_meet
                        case rel => exact ⟨_, H', ⟨by have := HJ11.out; have := HJ107.out; first | omega | exact Nat.le_refl _⟩, ⟨by (with_reducible repeat (first | apply Kd.R_alloc | apply Kd.R_drewN | apply Kd.R_drew)); exact Kd.R_mono HO_19.out (fun _ hk => trivial)⟩, ⟨by (with_reducible repeat (first | refine blk_drewN ?_ _ | refine blk_drew ?_ | refine blk_alloc ?_ _)); exact BK279.out⟩, ⟨by (with_reducible repeat (first | refine blk_drewN ?_ _ | refine blk_drew ?_ | refine blk_alloc ?_ _)); exact BK289.out⟩, ⟨by (with_reducible repeat (first | refine blk_drewN ?_ _ | refine blk_drew ?_ | refine blk_alloc ?_ _)); exact BK296.out⟩, ⟨by (with_reducible repeat (first | refine blk_drewN ?_ _ | refine blk_drew ?_ | refine blk_alloc ?_ _)); exact BK313.out⟩, ⟨by (with_reducible repeat (first | refine blk_drewN ?_ _ | refine blk_drew ?_ | refine blk_alloc ?_ _)); exact BK321.out⟩, ⟨by repeat (first | (with_reducible first | exact HB.out | apply below_alloc | apply pw_below_drewN | apply below_drew1 | refine below_set ?_ GE279.out | refine below_set ?_ GE289.out | refine below_set ?_ GE296.out | refine below_set ?_ GE313.out | refine below_set ?_ GE321.out) | exact HB.out)⟩⟩
                    · rw [if_neg c168] at H
                      have c168b0 : (t300 == 1) = false := beq_eq_false_iff_ne.mpr c168
                      have c168b1 : (t300 != 1) = true := bne_iff_ne.mpr c168
                      exact absurd ((Option.some.inj H).trans hrt.out) (by decide)
                case rest =>
                  clear HC148
                  try clear c1
                  try clear c2
                  try clear p2
                  try clear c3
                  try clear c3b0
                  try clear c3b1
                  try clear c4
                  try clear c5
                  try clear c6
                  try clear p6
                  try clear c7
                  try clear c8
                  try clear c9
                  try clear c10
                  try clear c11
                  try clear c12
                  try clear c13
                  try clear c14
                  try clear c15
                  try clear c16
                  try clear c17
                  try clear c18
                  try clear c22
                  try clear c23
                  try clear c29
                  try clear c30
                  try clear c31
                  try clear c35
                  try clear c36
                  try clear c37
                  try clear c38
                  try clear c42
                  try clear c42b0
                  try clear c43
                  try clear c44
                  try clear c45
                  try clear c46
                  try clear c48
                  try clear c49
                  try clear c50
                  try clear c52
                  try clear c52b0
                  try clear c52b1
                  try clear c53
                  try clear c53b0
                  try clear c54
                  try clear c55
                  try clear c56
                  try clear c57
                  try clear c59
                  try clear c60
                  try clear c61
                  try clear c63
                  try clear c64
                  try clear p64
                  try clear c66
                  try clear c68
                  try clear c68b0
                  try clear c68b1
                  try clear c70
                  try clear c71
                  try clear c72
                  try clear c73
                  try clear c75
                  try clear c76
                  try clear c77
                  try clear c79
                  try clear c80
                  try clear c82
                  try clear c84
                  try clear c85
                  try clear c86
                  try clear c87
                  try clear c89
                  try clear c90
                  try clear c91
                  try clear c93
                  try clear c94
                  try clear c96
                  try clear c98
                  try clear c99
                  try clear c100
                  try clear c101
                  try clear c103
                  try clear c104
                  try clear c105
                  try clear c107
                  try clear c109
                  try clear c109b0
                  try clear c109b1
                  try clear c110
                  try clear c110b0
                  try clear c110b1
                  try clear c111
                  try clear c111b0
                  try clear c111b1
                  try clear c112
                  try clear c112b0
                  try clear c112b1
                  try clear c114
                  try clear c115
                  try clear c115b0
                  try clear c115b1
                  try clear c116
                  try clear c116b0
                  try clear c118
                  try clear c119
                  try clear c120
                  try clear c121
                  try clear c122
                  try clear c128
                  try clear c129
                  try clear c130
                  try clear c131
                  try clear c137
                  try clear c138
                  try clear c139
                  try clear c140
                  try clear c146
                  try clear c149
                  try clear c150
                  try clear c151
                  try clear c152
                  try clear c155
                  try clear c156
                  try clear c156b0
                  try clear c156b1
                  try clear c159
                  try clear c160
                  try clear c161
                  try clear c162
                  try clear c163
                  try clear c168
                  try clear c168b0
                  try clear c168b1
                  try clear c169
                  try clear c169b0
                  try clear c169b1
                  try clear hcz102_0
                  try clear hcz102_1
                  try clear hcz102_2
                  try clear hcz102_3
                  try clear hcz102_4
                  try clear hcz106_0
                  try clear hcz106_1
                  try clear hcz106_2
                  try clear hcz106_3
                  try clear hcz106_4
                  try clear hcz123_0
                  try clear hcz123_1
                  try clear hcz123_2
                  try clear hcz123_3
                  try clear hcz123_4
                  try clear hcz132_0
                  try clear hcz132_1
                  try clear hcz132_2
                  try clear hcz132_3
                  try clear hcz132_4
                  try clear hcz141_0
                  try clear hcz141_1
                  try clear hcz141_2
                  try clear hcz141_3
                  try clear hcz141_4
                  try clear hcz153_0
                  try clear hcz153_1
                  try clear hcz153_2
                  try clear hcz153_3
                  try clear hcz153_4
                  try clear hcz164_0
                  try clear hcz164_1
                  try clear hcz164_2
                  try clear hcz164_3
                  try clear hcz164_4
                  try clear hcz19_0
                  try clear hcz19_1
                  try clear hcz19_2
                  try clear hcz19_3
                  try clear hcz19_4
                  try clear hcz24_0
                  try clear hcz24_1
                  try clear hcz24_2
                  try clear hcz24_3
                  try clear hcz24_4
                  try clear hcz25_0
                  try clear hcz25_1
                  try clear hcz25_2
                  try clear hcz25_3
                  try clear hcz25_4
                  try clear hcz32_0
                  try clear hcz32_1
                  try clear hcz32_2
                  try clear hcz32_3
                  try clear hcz32_4
                  try clear hcz39_0
                  try clear hcz39_1
                  try clear hcz39_2
                  try clear hcz39_3
                  try clear hcz39_4
                  try clear hcz40_0
                  try clear hcz40_1
                  try clear hcz40_2
                  try clear hcz40_3
                  try clear hcz40_4
                  try clear hcz47_0
                  try clear hcz47_1
                  try clear hcz47_2
                  try clear hcz47_3
                  try clear hcz47_4
                  try clear hcz51_0
                  try clear hcz51_1
                  try clear hcz51_2
                  try clear hcz51_3
                  try clear hcz51_4
                  try clear hcz58_0
                  try clear hcz58_1
                  try clear hcz58_2
                  try clear hcz58_3
                  try clear hcz58_4
                  try clear hcz62_0
                  try clear hcz62_1
                  try clear hcz62_2
                  try clear hcz62_3
                  try clear hcz62_4
                  try clear hcz65_0
                  try clear hcz65_1
                  try clear hcz65_2
                  try clear hcz65_3
                  try clear hcz65_4
                  try clear hcz67_0
                  try clear hcz67_1
                  try clear hcz67_2
                  try clear hcz67_3
                  try clear hcz67_4
                  try clear hcz74_0
                  try clear hcz74_1
                  try clear hcz74_2
                  try clear hcz74_3
                  try clear hcz74_4
                  try clear hcz78_0
                  try clear hcz78_1
                  try clear hcz78_2
                  try clear hcz78_3
                  try clear hcz78_4
                  try clear hcz81_0
                  try clear hcz81_1
                  try clear hcz81_2
                  try clear hcz81_3
                  try clear hcz81_4
                  try clear hcz83_0
                  try clear hcz83_1
                  try clear hcz83_2
                  try clear hcz83_3
                  try clear hcz83_4
                  try clear hcz88_0
                  try clear hcz88_1
                  try clear hcz88_2
                  try clear hcz88_3
                  try clear hcz88_4
                  try clear hcz92_0
                  try clear hcz92_1
                  try clear hcz92_2
                  try clear hcz92_3
                  try clear hcz92_4
                  try clear hcz95_0
                  try clear hcz95_1
                  try clear hcz95_2
                  try clear hcz95_3
                  try clear hcz95_4
                  try clear hcz97_0
                  try clear hcz97_1
                  try clear hcz97_2
                  try clear hcz97_3
                  try clear hcz97_4
                  try clear hfz102_0
                  try clear hfz102_1
                  try clear hfz102_2
                  try clear hfz102_3
                  try clear hfz102_4
                  try clear hfz106_0
                  try clear hfz106_1
                  try clear hfz106_2
                  try clear hfz106_3
                  try clear hfz106_4
                  try clear hfz123_0
                  try clear hfz123_1
                  try clear hfz123_2
                  try clear hfz123_3
                  try clear hfz123_4
                  try clear hfz132_0
                  try clear hfz132_1
                  try clear hfz132_2
                  try clear hfz132_3
                  try clear hfz132_4
                  try clear hfz141_0
                  try clear hfz141_1
                  try clear hfz141_2
                  try clear hfz141_3
                  try clear hfz141_4
                  try clear hfz153_0
                  try clear hfz153_1
                  try clear hfz153_2
                  try clear hfz153_3
                  try clear hfz153_4
                  try clear hfz164_0
                  try clear hfz164_1
                  try clear hfz164_2
                  try clear hfz164_3
                  try clear hfz164_4
                  try clear hfz19_0
                  try clear hfz19_1
                  try clear hfz19_2
                  try clear hfz19_3
                  try clear hfz19_4
                  try clear hfz24_0
                  try clear hfz24_1
                  try clear hfz24_2
                  try clear hfz24_3
                  try clear hfz24_4
                  try clear hfz25_0
                  try clear hfz25_1
                  try clear hfz25_2
                  try clear hfz25_3
                  try clear hfz25_4
                  try clear hfz32_0
                  try clear hfz32_1
                  try clear hfz32_2
                  try clear hfz32_3
                  try clear hfz32_4
                  try clear hfz39_0
                  try clear hfz39_1
                  try clear hfz39_2
                  try clear hfz39_3
                  try clear hfz39_4
                  try clear hfz40_0
                  try clear hfz40_1
                  try clear hfz40_2
                  try clear hfz40_3
                  try clear hfz40_4
                  try clear hfz47_0
                  try clear hfz47_1
                  try clear hfz47_2
                  try clear hfz47_3
                  try clear hfz47_4
                  try clear hfz51_0
                  try clear hfz51_1
                  try clear hfz51_2
                  try clear hfz51_3
                  try clear hfz51_4
                  try clear hfz58_0
                  try clear hfz58_1
                  try clear hfz58_2
                  try clear hfz58_3
                  try clear hfz58_4
                  try clear hfz62_0
                  try clear hfz62_1
                  try clear hfz62_2
                  try clear hfz62_3
                  try clear hfz62_4
                  try clear hfz65_0
                  try clear hfz65_1
                  try clear hfz65_2
                  try clear hfz65_3
                  try clear hfz65_4
                  try clear hfz67_0
                  try clear hfz67_1
                  try clear hfz67_2
                  try clear hfz67_3
                  try clear hfz67_4
                  try clear hfz74_0
                  try clear hfz74_1
                  try clear hfz74_2
                  try clear hfz74_3
                  try clear hfz74_4
                  try clear hfz78_0
                  try clear hfz78_1
                  try clear hfz78_2
                  try clear hfz78_3
                  try clear hfz78_4
                  try clear hfz81_0
                  try clear hfz81_1
                  try clear hfz81_2
                  try clear hfz81_3
                  try clear hfz81_4
                  try clear hfz83_0
                  try clear hfz83_1
                  try clear hfz83_2
                  try clear hfz83_3
                  try clear hfz83_4
                  try clear hfz88_0
                  try clear hfz88_1
                  try clear hfz88_2
                  try clear hfz88_3
                  try clear hfz88_4
                  try clear hfz92_0
                  try clear hfz92_1
                  try clear hfz92_2
                  try clear hfz92_3
                  try clear hfz92_4
                  try clear hfz95_0
                  try clear hfz95_1
                  try clear hfz95_2
                  try clear hfz95_3
                  try clear hfz95_4
                  try clear hfz97_0
                  try clear hfz97_1
                  try clear hfz97_2
                  try clear hfz97_3
                  try clear hfz97_4
                  try clear p2
                  try clear p6
                  try clear p64
                  obtain ⟨kq, HA, HJ147, HO_19, BK279, BK289, BK296, BK313, BK321, HB⟩ := hcut
                  cases kq with
                  | zero => exact absurd HA.out (by simp [sobriquetlaw01_TlvExact.j2])
                  | succ kj147 =>
                    have H := HA.out
                    clear HA
                    simp only [sobriquetlaw01_TlvExact.j2] at H
                    replace H := Option.bind_eq_some_iff.mp H
                    obtain ⟨t336, A1710, H⟩ := H
                    replace H : (if t336 = true then (if t325 = 0 then ((sobriquetref01_Wrap.f kj147 a1_0 a1_1 a1_2 l0).bind fun t338 => ((sobriquetkeep_Bytes.f kj147 t322 t338).bind fun t341 => (if t341 = true then ((sobriquetlaw01_wakes.f kj147).bind fun t342 => (some t342)) else (some false)))) else (some false)) else (if t325 = 1 then (if (t322.length : Int) = 0 then ((sobriquetlaw01_wakes.f kj147).bind fun t337 => (some t337)) else (some false)) else (some false))) = some r := H
                    have A171 := Aside0.mk A1710
                    clear A1710
                    by_cases c172 : t336 = true
                    · subst c172
                      have H1 : (if t325 = 0 then ((sobriquetref01_Wrap.f kj147 a1_0 a1_1 a1_2 l0).bind fun t338 => ((sobriquetkeep_Bytes.f kj147 t322 t338).bind fun t341 => (if t341 = true then ((sobriquetlaw01_wakes.f kj147).bind fun t342 => (some t342)) else (some false)))) else (some false)) = some r := by rw [if_pos rfl] at H; exact H
                      clear H
                      have H := H1
                      clear H1
                      by_cases c173 : t325 = 0
                      · rw [if_pos c173] at H
                        have c173b0 : (t325 == 0) = true := beq_iff_eq.mpr c173
                        have c173b1 : (t325 != 0) = false := bne_eq_false_iff_eq.mpr c173
                        clear c173
                        replace H := Option.bind_eq_some_iff.mp H
                        obtain ⟨t338, A1740, H⟩ := H
                        replace H : ((sobriquetkeep_Bytes.f kj147 t322 t338).bind fun t341 => (if t341 = true then ((sobriquetlaw01_wakes.f kj147).bind fun t342 => (some t342)) else (some false))) = some r := H
                        have A174 := Aside0.mk A1740
                        clear A1740
                        replace H := Option.bind_eq_some_iff.mp H
                        obtain ⟨t341, A1750, H⟩ := H
                        replace H : (if t341 = true then ((sobriquetlaw01_wakes.f kj147).bind fun t342 => (some t342)) else (some false)) = some r := H
                        have A175 := Aside0.mk A1750
                        clear A1750
                        by_cases c176 : t341 = true
                        · subst c176
                          have H1 : ((sobriquetlaw01_wakes.f kj147).bind fun t342 => (some t342)) = some r := by rw [if_pos rfl] at H; exact H
                          clear H
                          have H := H1
                          clear H1
                          replace H := Option.bind_eq_some_iff.mp H
                          obtain ⟨t342, A1770, H⟩ := H
                          replace H : (some t342) = some r := H
                          have A177 := Aside0.mk A1770
                          clear A1770
                          obtain rfl := Option.some.inj H
                          have hnb178 := NB279_289.out
                          have hnc178 := NB289_279.out
                          have hnb179 := NB279_296.out
                          have hnc179 := NB296_279.out
                          have hnb180 := NB279_313.out
                          have hnc180 := NB313_279.out
                          have hnb181 := NB279_321.out
                          have hnc181 := NB321_279.out
                          have hcz182_0 : wc.cell? ⟨gb279, 0, none⟩ = some (.int .i64 a1_0) := (blk_cell BK279.out 0).trans rfl
                          have hcz182_1 : wc.cell? ⟨gb279, 1, none⟩ = some (.int .i64 a1_1) := (blk_cell BK279.out 1).trans rfl
                          have hcz182_2 : wc.cell? ⟨gb279, 2, none⟩ = some (.bool a1_2) := (blk_cell BK279.out 2).trans rfl
                          have hcz182_3 : wc.cell? ⟨gb279, 3, none⟩ = some (.int .i64 a1_3) := (blk_cell BK279.out 3).trans rfl
                          have hcz182_4 : wc.cell? ⟨gb279, 4, none⟩ = some (.int .i64 a1_4) := (blk_cell BK279.out 4).trans rfl
                          have hfz182_0 := blk_frozen BK279.out 0
                          have hfz182_1 := blk_frozen BK279.out 1
                          have hfz182_2 := blk_frozen BK279.out 2
                          have hfz182_3 := blk_frozen BK279.out 3
                          have hfz182_4 := blk_frozen BK279.out 4
                          go_wp2_with (first | ((with_reducible refine gate_callee (f := 17) rfl ?_); refine goesL_ (some 139) rfl rfl Try.func17 (by kernel_rfl) rfl #[.agg #[.int .i64 a1_0, .int .i64 a1_1, .bool a1_2, .int .i64 (l0.length : Int), .int .i64 a1_4]] rfl (by (try simp only [List.map_toArray, List.map_cons, List.map_nil]); first | done | rfl | (simp only [List.length_drop, List.length_take]; rfl)) ?_; (with_reducible refine (sobriquetref01_Head.calls a1_0 a1_1 a1_2 (l0.length : Int) a1_4 true _ A171.out).mono ?_); rintro e w183 ⟨rfl, hb⟩; refine ⟨_, rfl, ?_⟩; have n0_ := Aside0.mk (Kd.R_below (by (with_reducible repeat (first | apply Kd.R_alloc | apply Kd.R_drewN | apply Kd.R_drew)); exact (Kd.R_mono (Kd.R_far (p := ⟨gb279, 3, none⟩) (Kd.R_types HO_19.out BK279.out (by decide)) (fun _ hk => hk.2) (.int .i64 (l0.length : Int))) (fun _ h_ => h_.1))) hb); have n1_ := Aside0.mk (blk_below (g := gb279) (o := .cells #[.int .i64 a1_0, .int .i64 a1_1, .bool a1_2, .int .i64 (l0.length : Int), .int .i64 a1_4] 23 (0, 0)) (by (with_reducible repeat (first | refine blk_drewN ?_ _ | refine blk_drew ?_ | refine blk_alloc ?_ _)); refine blk_put (cs := #[.int .i64 a1_0, .int .i64 a1_1, .bool a1_2, .int .i64 a1_3, .int .i64 a1_4]) ?_ 3 _ rfl; (with_reducible repeat (first | refine blk_drewN ?_ _ | refine blk_drew ?_ | refine blk_alloc ?_ _)); exact BK279.out) hb); have n2_ := Aside0.mk (blk_below (g := gb289) (o := .cells #[.int .i64 t283, .int .i64 t284, .bool t285, .int .i64 t286, .int .i64 t287] 23 (0, 0)) (by (with_reducible repeat (first | refine blk_drewN ?_ _ | refine blk_drew ?_ | refine blk_alloc ?_ _)); refine blk_far ?_ NB289_279.out _; (with_reducible repeat (first | refine blk_drewN ?_ _ | refine blk_drew ?_ | refine blk_alloc ?_ _)); exact BK289.out) hb); have n3_ := Aside0.mk (blk_below (g := gb296) (o := .cells #[.int .i64 t290, .int .i64 t291, .bool t292, .int .i64 t293, .int .i64 t294] 23 (0, 0)) (by (with_reducible repeat (first | refine blk_drewN ?_ _ | refine blk_drew ?_ | refine blk_alloc ?_ _)); refine blk_far ?_ NB296_279.out _; (with_reducible repeat (first | refine blk_drewN ?_ _ | refine blk_drew ?_ | refine blk_alloc ?_ _)); exact BK296.out) hb); have n4_ := Aside0.mk (blk_below (g := gb313) (o := .cells #[.int .i64 t301, .int .i64 t302, .bool t303, .int .i64 t304, .int .i64 t305] 23 (0, 0)) (by (with_reducible repeat (first | refine blk_drewN ?_ _ | refine blk_drew ?_ | refine blk_alloc ?_ _)); refine blk_far ?_ NB313_279.out _; (with_reducible repeat (first | refine blk_drewN ?_ _ | refine blk_drew ?_ | refine blk_alloc ?_ _)); exact BK313.out) hb); have n5_ := Aside0.mk (blk_below (g := gb321) (o := .cells #[.int .i64 t314, .int .i64 t315, .bool t316, .int .i64 t317, .int .i64 t318] 23 (0, 0)) (by (with_reducible repeat (first | refine blk_drewN ?_ _ | refine blk_drew ?_ | refine blk_alloc ?_ _)); refine blk_far ?_ NB321_279.out _; (with_reducible repeat (first | refine blk_drewN ?_ _ | refine blk_drew ?_ | refine blk_alloc ?_ _)); exact BK321.out) hb); have n6_ := Aside0.mk (below_step (by repeat (first | (with_reducible first | exact HB.out | apply below_alloc | apply pw_below_drewN | apply below_drew1 | refine below_set ?_ GE279.out | refine below_set ?_ GE289.out | refine below_set ?_ GE296.out | refine below_set ?_ GE313.out | refine below_set ?_ GE321.out) | exact HB.out)) hb); clear HO_19; clear BK279; clear BK289; clear BK296; clear BK313; clear BK321; clear HB; have HO_19 := n0_; have BK279 := n1_; have BK289 := n2_; have BK296 := n3_; have BK313 := n4_; have BK321 := n5_; have HB := n6_; clear n0_ n1_ n2_ n3_ n4_ n5_ n6_; (try clear hb); (try clear hb2); (try clear hk); (try clear hi); have hcz184_0 : w183.cell? ⟨gb279, 0, none⟩ = some (.int .i64 a1_0) := (blk_cell BK279.out 0).trans rfl; have hcz184_1 : w183.cell? ⟨gb279, 1, none⟩ = some (.int .i64 a1_1) := (blk_cell BK279.out 1).trans rfl; have hcz184_2 : w183.cell? ⟨gb279, 2, none⟩ = some (.bool a1_2) := (blk_cell BK279.out 2).trans rfl; have hcz184_3 : w183.cell? ⟨gb279, 3, none⟩ = some (.int .i64 (l0.length : Int)) := (blk_cell BK279.out 3).trans rfl; have hcz184_4 : w183.cell? ⟨gb279, 4, none⟩ = some (.int .i64 a1_4) := (blk_cell BK279.out 4).trans rfl; have hfz184_0 := blk_frozen BK279.out 0; have hfz184_1 := blk_frozen BK279.out 1; have hfz184_2 := blk_frozen BK279.out 2; have hfz184_3 := blk_frozen BK279.out 3; have hfz184_4 := blk_frozen BK279.out 4) | (go_at_call 19; (with_reducible refine (sobriquetref01_Wrap.calls kj147 a1_0 a1_1 a1_2 _ _ l0 t338 _ ?side1 ?side2 A174.out).mono ?_); (case side1 => repeat (first | exact (Kd.C_below HR0.out HB.out) | (with_reducible refine Kd.C_alloc ?_ _) | (with_reducible refine Kd.C_drewN ?_ _) | (with_reducible refine Kd.C_drew ?_))); (case side2 => exact HC0.out); rintro e w185 ⟨v339, rfl, ho0, hb⟩; have n0_ := Aside0.mk (Kd.R_elder' (by (with_reducible repeat (first | apply Kd.R_alloc | apply Kd.R_drewN | apply Kd.R_drew)); exact HO_19.out) (Kd.R_base ho0) hb); have n1_ := Aside0.mk (Kd.R_lower (Kd.R_new' ho0 (Kd.R_lt (by (with_reducible repeat (first | apply Kd.R_alloc | apply Kd.R_drewN | apply Kd.R_drew)); exact HO_19.out))) (below_size (by repeat (first | (with_reducible first | exact HB.out | apply below_alloc | apply pw_below_drewN | apply below_drew1 | refine below_set ?_ GE279.out | refine below_set ?_ GE289.out | refine below_set ?_ GE296.out | refine below_set ?_ GE313.out | refine below_set ?_ GE321.out) | exact HB.out)))); have n2_ := Aside0.mk (blk_below (g := gb279) (o := .cells #[.int .i64 a1_0, .int .i64 a1_1, .bool a1_2, .int .i64 (l0.length : Int), .int .i64 a1_4] 23 (0, 0)) (by (with_reducible repeat (first | refine blk_drewN ?_ _ | refine blk_drew ?_ | refine blk_alloc ?_ _)); exact BK279.out) hb); have n3_ := Aside0.mk (blk_below (g := gb289) (o := .cells #[.int .i64 t283, .int .i64 t284, .bool t285, .int .i64 t286, .int .i64 t287] 23 (0, 0)) (by (with_reducible repeat (first | refine blk_drewN ?_ _ | refine blk_drew ?_ | refine blk_alloc ?_ _)); exact BK289.out) hb); have n4_ := Aside0.mk (blk_below (g := gb296) (o := .cells #[.int .i64 t290, .int .i64 t291, .bool t292, .int .i64 t293, .int .i64 t294] 23 (0, 0)) (by (with_reducible repeat (first | refine blk_drewN ?_ _ | refine blk_drew ?_ | refine blk_alloc ?_ _)); exact BK296.out) hb); have n5_ := Aside0.mk (blk_below (g := gb313) (o := .cells #[.int .i64 t301, .int .i64 t302, .bool t303, .int .i64 t304, .int .i64 t305] 23 (0, 0)) (by (with_reducible repeat (first | refine blk_drewN ?_ _ | refine blk_drew ?_ | refine blk_alloc ?_ _)); exact BK313.out) hb); have n6_ := Aside0.mk (blk_below (g := gb321) (o := .cells #[.int .i64 t314, .int .i64 t315, .bool t316, .int .i64 t317, .int .i64 t318] 23 (0, 0)) (by (with_reducible repeat (first | refine blk_drewN ?_ _ | refine blk_drew ?_ | refine blk_alloc ?_ _)); exact BK321.out) hb); have n7_ := Aside0.mk (below_step (by repeat (first | (with_reducible first | exact HB.out | apply below_alloc | apply pw_below_drewN | apply below_drew1 | refine below_set ?_ GE279.out | refine below_set ?_ GE289.out | refine below_set ?_ GE296.out | refine below_set ?_ GE313.out | refine below_set ?_ GE321.out) | exact HB.out)) hb); clear HO_19; clear BK279; clear BK289; clear BK296; clear BK313; clear BK321; clear HB; have HO_19 := n0_; have HO340 := n1_; have BK279 := n2_; have BK289 := n3_; have BK296 := n4_; have BK313 := n5_; have BK321 := n6_; have HB := n7_; clear n0_ n1_ n2_ n3_ n4_ n5_ n6_ n7_; (try clear hb); (try clear hb2); (try clear hk); (try clear hi); (try clear ho0); obtain ⟨Ao186, co186, eo186⟩ := Kd.R_slice HO_19.out; subst eo186; obtain ⟨Ao187, co187, eo187⟩ := Kd.R_slice HO340.out; subst eo187) | (go_at_call 12; (with_reducible refine (sobriquetkeep_Bytes.calls kj147 _ _ t322 _ _ t338 true _ ?side1 ?side2 ?side3 ?side4 A175.out).mono ?_); (case side1 => repeat (first | exact (Kd.R_reads' HO_19.out).2.2 | (with_reducible refine Kd.C_alloc ?_ _) | (with_reducible refine Kd.C_drewN ?_ _) | (with_reducible refine Kd.C_drew ?_))); (case side2 => exact (Kd.R_reads' HO_19.out).2.1); (case side3 => repeat (first | exact (Kd.R_reads' HO340.out).2.2 | (with_reducible refine Kd.C_alloc ?_ _) | (with_reducible refine Kd.C_drewN ?_ _) | (with_reducible refine Kd.C_drew ?_))); (case side4 => exact (Kd.R_reads' HO340.out).2.1); rintro e w' ⟨rfl, ⟨nd, rfl⟩⟩) | (go_at_call 9; (with_reducible refine (sobriquetlaw01_wakes.calls kj147  t342 _ A177.out (by first | exact hrt.out | rfl)).mono ?_); rintro e w188 ⟨rfl, hb⟩; have n0_ := Aside0.mk (Kd.R_below (by (with_reducible repeat (first | apply Kd.R_alloc | apply Kd.R_drewN | apply Kd.R_drew)); exact HO_19.out) hb); have n1_ := Aside0.mk (Kd.R_below (by (with_reducible repeat (first | apply Kd.R_alloc | apply Kd.R_drewN | apply Kd.R_drew)); exact HO340.out) hb); have n2_ := Aside0.mk (blk_below (g := gb279) (o := .cells #[.int .i64 a1_0, .int .i64 a1_1, .bool a1_2, .int .i64 (l0.length : Int), .int .i64 a1_4] 23 (0, 0)) (by (with_reducible repeat (first | refine blk_drewN ?_ _ | refine blk_drew ?_ | refine blk_alloc ?_ _)); exact BK279.out) hb); have n3_ := Aside0.mk (blk_below (g := gb289) (o := .cells #[.int .i64 t283, .int .i64 t284, .bool t285, .int .i64 t286, .int .i64 t287] 23 (0, 0)) (by (with_reducible repeat (first | refine blk_drewN ?_ _ | refine blk_drew ?_ | refine blk_alloc ?_ _)); exact BK289.out) hb); have n4_ := Aside0.mk (blk_below (g := gb296) (o := .cells #[.int .i64 t290, .int .i64 t291, .bool t292, .int .i64 t293, .int .i64 t294] 23 (0, 0)) (by (with_reducible repeat (first | refine blk_drewN ?_ _ | refine blk_drew ?_ | refine blk_alloc ?_ _)); exact BK296.out) hb); have n5_ := Aside0.mk (blk_below (g := gb313) (o := .cells #[.int .i64 t301, .int .i64 t302, .bool t303, .int .i64 t304, .int .i64 t305] 23 (0, 0)) (by (with_reducible repeat (first | refine blk_drewN ?_ _ | refine blk_drew ?_ | refine blk_alloc ?_ _)); exact BK313.out) hb); have n6_ := Aside0.mk (blk_below (g := gb321) (o := .cells #[.int .i64 t314, .int .i64 t315, .bool t316, .int .i64 t317, .int .i64 t318] 23 (0, 0)) (by (with_reducible repeat (first | refine blk_drewN ?_ _ | refine blk_drew ?_ | refine blk_alloc ?_ _)); exact BK321.out) hb); have n7_ := Aside0.mk (below_step (by repeat (first | (with_reducible first | exact HB.out | apply below_alloc | apply pw_below_drewN | apply below_drew1 | refine below_set ?_ GE279.out | refine below_set ?_ GE289.out | refine below_set ?_ GE296.out | refine below_set ?_ GE313.out | refine below_set ?_ GE321.out) | exact HB.out)) hb); clear HO_19; clear HO340; clear BK279; clear BK289; clear BK296; clear BK313; clear BK321; clear HB; have HO_19 := n0_; have HO340 := n1_; have BK279 := n2_; have BK289 := n3_; have BK296 := n4_; have BK313 := n5_; have BK321 := n6_; have HB := n7_; clear n0_ n1_ n2_ n3_ n4_ n5_ n6_ n7_; (try clear hb); (try clear hb2); (try clear hk); (try clear hi)))
                          go_ret
                          exact ⟨by first | rfl | (simp [errW_none, errW_some] <;> rfl) | (simp [*, errW_none, errW_some] <;> rfl), by repeat (first | (with_reducible first | exact HB.out | apply below_alloc | apply pw_below_drewN | apply below_drew1 | refine below_set ?_ GE279.out | refine below_set ?_ GE289.out | refine below_set ?_ GE296.out | refine below_set ?_ GE313.out | refine below_set ?_ GE321.out) | exact HB.out)⟩
                        · replace c176 := Bool.eq_false_iff.mpr c176
                          subst c176
                          have H1 : (some false) = some r := by rw [if_neg (show ¬ (false = true) by decide)] at H; exact H
                          clear H
                          have H := H1
                          clear H1
                          exact absurd ((Option.some.inj H).trans hrt.out) (by decide)
                      · rw [if_neg c173] at H
                        have c173b0 : (t325 == 0) = false := beq_eq_false_iff_ne.mpr c173
                        have c173b1 : (t325 != 0) = true := bne_iff_ne.mpr c173
                        exact absurd ((Option.some.inj H).trans hrt.out) (by decide)
                    · replace c172 := Bool.eq_false_iff.mpr c172
                      subst c172
                      have H1 : (if t325 = 1 then (if (t322.length : Int) = 0 then ((sobriquetlaw01_wakes.f kj147).bind fun t337 => (some t337)) else (some false)) else (some false)) = some r := by rw [if_neg (show ¬ (false = true) by decide)] at H; exact H
                      clear H
                      have H := H1
                      clear H1
                      by_cases c189 : t325 = 1
                      · rw [if_pos c189] at H
                        have c189b0 : (t325 == 1) = true := beq_iff_eq.mpr c189
                        have c189b1 : (t325 != 1) = false := bne_eq_false_iff_eq.mpr c189
                        clear c189
                        by_cases c190 : (t322.length : Int) = 0
                        · rw [if_pos c190] at H
                          have c190b0 : ((t322.length : Int) == 0) = true := beq_iff_eq.mpr c190
                          have c190b1 : ((t322.length : Int) != 0) = false := bne_eq_false_iff_eq.mpr c190
                          clear c190
                          replace H := Option.bind_eq_some_iff.mp H
                          obtain ⟨t337, A1910, H⟩ := H
                          replace H : (some t337) = some r := H
                          have A191 := Aside0.mk A1910
                          clear A1910
                          obtain rfl := Option.some.inj H
                          have hnb192 := NB279_289.out
                          have hnc192 := NB289_279.out
                          have hnb193 := NB279_296.out
                          have hnc193 := NB296_279.out
                          have hnb194 := NB279_313.out
                          have hnc194 := NB313_279.out
                          have hnb195 := NB279_321.out
                          have hnc195 := NB321_279.out
                          have hcz196_0 : wc.cell? ⟨gb279, 0, none⟩ = some (.int .i64 a1_0) := (blk_cell BK279.out 0).trans rfl
                          have hcz196_1 : wc.cell? ⟨gb279, 1, none⟩ = some (.int .i64 a1_1) := (blk_cell BK279.out 1).trans rfl
                          have hcz196_2 : wc.cell? ⟨gb279, 2, none⟩ = some (.bool a1_2) := (blk_cell BK279.out 2).trans rfl
                          have hcz196_3 : wc.cell? ⟨gb279, 3, none⟩ = some (.int .i64 a1_3) := (blk_cell BK279.out 3).trans rfl
                          have hcz196_4 : wc.cell? ⟨gb279, 4, none⟩ = some (.int .i64 a1_4) := (blk_cell BK279.out 4).trans rfl
                          have hfz196_0 := blk_frozen BK279.out 0
                          have hfz196_1 := blk_frozen BK279.out 1
                          have hfz196_2 := blk_frozen BK279.out 2
                          have hfz196_3 := blk_frozen BK279.out 3
                          have hfz196_4 := blk_frozen BK279.out 4
                          go_wp2_with (first | ((with_reducible refine gate_callee (f := 17) rfl ?_); refine goesL_ (some 139) rfl rfl Try.func17 (by kernel_rfl) rfl #[.agg #[.int .i64 a1_0, .int .i64 a1_1, .bool a1_2, .int .i64 (l0.length : Int), .int .i64 a1_4]] rfl (by (try simp only [List.map_toArray, List.map_cons, List.map_nil]); first | done | rfl | (simp only [List.length_drop, List.length_take]; rfl)) ?_; (with_reducible refine (sobriquetref01_Head.calls a1_0 a1_1 a1_2 (l0.length : Int) a1_4 false _ A171.out).mono ?_); rintro e w197 ⟨rfl, hb⟩; refine ⟨_, rfl, ?_⟩; have n0_ := Aside0.mk (Kd.R_below (by (with_reducible repeat (first | apply Kd.R_alloc | apply Kd.R_drewN | apply Kd.R_drew)); exact (Kd.R_mono (Kd.R_far (p := ⟨gb279, 3, none⟩) (Kd.R_types HO_19.out BK279.out (by decide)) (fun _ hk => hk.2) (.int .i64 (l0.length : Int))) (fun _ h_ => h_.1))) hb); have n1_ := Aside0.mk (blk_below (g := gb279) (o := .cells #[.int .i64 a1_0, .int .i64 a1_1, .bool a1_2, .int .i64 (l0.length : Int), .int .i64 a1_4] 23 (0, 0)) (by (with_reducible repeat (first | refine blk_drewN ?_ _ | refine blk_drew ?_ | refine blk_alloc ?_ _)); refine blk_put (cs := #[.int .i64 a1_0, .int .i64 a1_1, .bool a1_2, .int .i64 a1_3, .int .i64 a1_4]) ?_ 3 _ rfl; (with_reducible repeat (first | refine blk_drewN ?_ _ | refine blk_drew ?_ | refine blk_alloc ?_ _)); exact BK279.out) hb); have n2_ := Aside0.mk (blk_below (g := gb289) (o := .cells #[.int .i64 t283, .int .i64 t284, .bool t285, .int .i64 t286, .int .i64 t287] 23 (0, 0)) (by (with_reducible repeat (first | refine blk_drewN ?_ _ | refine blk_drew ?_ | refine blk_alloc ?_ _)); refine blk_far ?_ NB289_279.out _; (with_reducible repeat (first | refine blk_drewN ?_ _ | refine blk_drew ?_ | refine blk_alloc ?_ _)); exact BK289.out) hb); have n3_ := Aside0.mk (blk_below (g := gb296) (o := .cells #[.int .i64 t290, .int .i64 t291, .bool t292, .int .i64 t293, .int .i64 t294] 23 (0, 0)) (by (with_reducible repeat (first | refine blk_drewN ?_ _ | refine blk_drew ?_ | refine blk_alloc ?_ _)); refine blk_far ?_ NB296_279.out _; (with_reducible repeat (first | refine blk_drewN ?_ _ | refine blk_drew ?_ | refine blk_alloc ?_ _)); exact BK296.out) hb); have n4_ := Aside0.mk (blk_below (g := gb313) (o := .cells #[.int .i64 t301, .int .i64 t302, .bool t303, .int .i64 t304, .int .i64 t305] 23 (0, 0)) (by (with_reducible repeat (first | refine blk_drewN ?_ _ | refine blk_drew ?_ | refine blk_alloc ?_ _)); refine blk_far ?_ NB313_279.out _; (with_reducible repeat (first | refine blk_drewN ?_ _ | refine blk_drew ?_ | refine blk_alloc ?_ _)); exact BK313.out) hb); have n5_ := Aside0.mk (blk_below (g := gb321) (o := .cells #[.int .i64 t314, .int .i64 t315, .bool t316, .int .i64 t317, .int .i64 t318] 23 (0, 0)) (by (with_reducible repeat (first | refine blk_drewN ?_ _ | refine blk_drew ?_ | refine blk_alloc ?_ _)); refine blk_far ?_ NB321_279.out _; (with_reducible repeat (first | refine blk_drewN ?_ _ | refine blk_drew ?_ | refine blk_alloc ?_ _)); exact BK321.out) hb); have n6_ := Aside0.mk (below_step (by repeat (first | (with_reducible first | exact HB.out | apply below_alloc | apply pw_below_drewN | apply below_drew1 | refine below_set ?_ GE279.out | refine below_set ?_ GE289.out | refine below_set ?_ GE296.out | refine below_set ?_ GE313.out | refine below_set ?_ GE321.out) | exact HB.out)) hb); clear HO_19; clear BK279; clear BK289; clear BK296; clear BK313; clear BK321; clear HB; have HO_19 := n0_; have BK279 := n1_; have BK289 := n2_; have BK296 := n3_; have BK313 := n4_; have BK321 := n5_; have HB := n6_; clear n0_ n1_ n2_ n3_ n4_ n5_ n6_; (try clear hb); (try clear hb2); (try clear hk); (try clear hi); obtain ⟨Ao198, co198, eo198⟩ := Kd.R_slice HO_19.out; subst eo198) | (go_at_call 9; (with_reducible refine (sobriquetlaw01_wakes.calls kj147  t337 _ A191.out (by first | exact hrt.out | rfl)).mono ?_); rintro e w199 ⟨rfl, hb⟩; have n0_ := Aside0.mk (Kd.R_below (by (with_reducible repeat (first | apply Kd.R_alloc | apply Kd.R_drewN | apply Kd.R_drew)); exact HO_19.out) hb); have n1_ := Aside0.mk (blk_below (g := gb279) (o := .cells #[.int .i64 a1_0, .int .i64 a1_1, .bool a1_2, .int .i64 (l0.length : Int), .int .i64 a1_4] 23 (0, 0)) (by (with_reducible repeat (first | refine blk_drewN ?_ _ | refine blk_drew ?_ | refine blk_alloc ?_ _)); exact BK279.out) hb); have n2_ := Aside0.mk (blk_below (g := gb289) (o := .cells #[.int .i64 t283, .int .i64 t284, .bool t285, .int .i64 t286, .int .i64 t287] 23 (0, 0)) (by (with_reducible repeat (first | refine blk_drewN ?_ _ | refine blk_drew ?_ | refine blk_alloc ?_ _)); exact BK289.out) hb); have n3_ := Aside0.mk (blk_below (g := gb296) (o := .cells #[.int .i64 t290, .int .i64 t291, .bool t292, .int .i64 t293, .int .i64 t294] 23 (0, 0)) (by (with_reducible repeat (first | refine blk_drewN ?_ _ | refine blk_drew ?_ | refine blk_alloc ?_ _)); exact BK296.out) hb); have n4_ := Aside0.mk (blk_below (g := gb313) (o := .cells #[.int .i64 t301, .int .i64 t302, .bool t303, .int .i64 t304, .int .i64 t305] 23 (0, 0)) (by (with_reducible repeat (first | refine blk_drewN ?_ _ | refine blk_drew ?_ | refine blk_alloc ?_ _)); exact BK313.out) hb); have n5_ := Aside0.mk (blk_below (g := gb321) (o := .cells #[.int .i64 t314, .int .i64 t315, .bool t316, .int .i64 t317, .int .i64 t318] 23 (0, 0)) (by (with_reducible repeat (first | refine blk_drewN ?_ _ | refine blk_drew ?_ | refine blk_alloc ?_ _)); exact BK321.out) hb); have n6_ := Aside0.mk (below_step (by repeat (first | (with_reducible first | exact HB.out | apply below_alloc | apply pw_below_drewN | apply below_drew1 | refine below_set ?_ GE279.out | refine below_set ?_ GE289.out | refine below_set ?_ GE296.out | refine below_set ?_ GE313.out | refine below_set ?_ GE321.out) | exact HB.out)) hb); clear HO_19; clear BK279; clear BK289; clear BK296; clear BK313; clear BK321; clear HB; have HO_19 := n0_; have BK279 := n1_; have BK289 := n2_; have BK296 := n3_; have BK313 := n4_; have BK321 := n5_; have HB := n6_; clear n0_ n1_ n2_ n3_ n4_ n5_ n6_; (try clear hb); (try clear hb2); (try clear hk); (try clear hi)))
                          go_ret
                          exact ⟨by first | rfl | (simp [errW_none, errW_some] <;> rfl) | (simp [*, errW_none, errW_some] <;> rfl), by repeat (first | (with_reducible first | exact HB.out | apply below_alloc | apply pw_below_drewN | apply below_drew1 | refine below_set ?_ GE279.out | refine below_set ?_ GE289.out | refine below_set ?_ GE296.out | refine below_set ?_ GE313.out | refine below_set ?_ GE321.out) | exact HB.out)⟩
                        · rw [if_neg c190] at H
                          have c190b0 : ((t322.length : Int) == 0) = false := beq_eq_false_iff_ne.mpr c190
                          have c190b1 : ((t322.length : Int) != 0) = true := bne_iff_ne.mpr c190
                          have c190b2 : ¬ (t322 = []) := fun h_ => c190 (by rw [h_]; rfl)
                          exact absurd ((Option.some.inj H).trans hrt.out) (by decide)
                      · rw [if_neg c189] at H
                        have c189b0 : (t325 == 1) = false := beq_eq_false_iff_ne.mpr c189
                        have c189b1 : (t325 != 1) = true := bne_iff_ne.mpr c189
                        exact absurd ((Option.some.inj H).trans hrt.out) (by decide)

def sobriquetlaw01_TlvExact.Pure : Prop := ∀ (l0 : List Int) (a1_0 : Int) (a1_1 : Int) (a1_2 : Bool) (a1_3 : Int) (a1_4 : Int), l0.length ≤ maxLen → l0.length * 1 ≤ 140737488351232 → (∀ x ∈ l0, (Lit.int .u8 x).wf = true) → (Lit.int .i64 a1_0).wf = true → (Lit.int .i64 a1_1).wf = true → (Lit.int .i64 a1_3).wf = true → (Lit.int .i64 a1_4).wf = true → ∃ k, sobriquetlaw01_TlvExact.f k l0 a1_0 a1_1 a1_2 a1_3 a1_4 = some true
theorem sobriquetlaw01_TlvExact.walk (P : sobriquetlaw01_TlvExact.Pure) (a0 : Option Addr) (len0 cap0 : Nat) (z0 : List Int) (a1_0 : Int) (a1_1 : Int) (a1_2 : Bool) (a1_3 : Int) (a1_4 : Int) (w : World) (w0 : (a0 = none ∧ len0 = 0 ∧ cap0 = 0 ∧ z0 = []) ∨ ∃ x, a0 = some x ∧ len0 ≤ cap0 ∧ cap0 ≤ maxLen ∧ z0.length = cap0 ∧ (∀ i, i < z0.length → w.cell? (x.add i) = some (.int .u8 (z0.getD i 0))) ∧ ∀ n ∈ z0, (Lit.int .u8 n).wf = true) (y0 : len0 * 1 ≤ 140737488351232) (w1_0 : (Lit.int .i64 a1_0).wf = true) (w1_1 : (Lit.int .i64 a1_1).wf = true) (w1_3 : (Lit.int .i64 a1_3).wf = true) (w1_4 : (Lit.int .i64 a1_4).wf = true) :
    Calls Try.prog 6 #[.slice a0 len0 cap0, .agg #[.int .i64 a1_0, .int .i64 a1_1, .bool a1_2, .int .i64 a1_3, .int .i64 a1_4]] w fun e w' => e = .returned (.bool true) ∧ Below w.heap.size w w' := by
  obtain ⟨l0, rfl, hr0, hm0, hw0, hc0⟩ := ReadsInt.ofRowC w0
  obtain ⟨k, h⟩ := P l0 a1_0 a1_1 a1_2 a1_3 a1_4 hm0 y0 hw0 w1_0 w1_1 w1_3 w1_4
  refine (sobriquetlaw01_TlvExact.calls k _ _ l0 a1_0 a1_1 a1_2 a1_3 a1_4 true w (Kd.C_of_reads (d := (0 : Int)) (h1 := fun _ => rfl) hr0) hc0 h rfl).mono ?_
  rintro e w' ⟨rfl, hd⟩
  exact ⟨rfl, hd⟩

end Go.Proofs.Ytooemmioomaplaa.MTlvExact
