/- What the function meridianlaw06_SteerGreatest computes, as printed by a program of this session (over the kit's print). -/
import Derived.Test.YtcaekmalkbaldaaM0
import Derived.Test.YtcaekmalkbaldaaM2
import Derived.Test.YtcaekmalkbaldaaM8
import Derived.Test.YtcaekmalkbaldaaM13
namespace Go.Proofs.Ytcaekmalkbaldaa.M
open Go.RowKit Go.Proofs.YtcaekmalkbaldaaW.PrintWords Go.Proofs.YtcaekmalkbaldaaW.PrintLast Go.Proofs.YtcaekmalkbaldaaW.PrintMore
attribute [local go_sem] max2_int min2_int max_two min_two max_three min_three max_four min_four   -- for this text's walks alone
set_option linter.unusedVariables false
set_option linter.unusedSimpArgs false

/-! ### meridianlaw06_SteerGreatest: function 5 -/
mutual
def meridianlaw06_SteerGreatest.j0 : Nat → List Int → Bool → Int → Int → Int → Int → Int → Int → Int → Int → Option (Bool)
  | 0, _, _, _, _, _, _, _, _, _, _ => none
  | k + 1, x1, x39, x268000, x268001, x268002, x268003, x269000, x269001, x269002, x269003 => if x39 = true then ((meridianlaw06_awake.f).bind fun t271 => (some t271)) else ((steer_Chart.f x269000 x269001 x269002 x269003).bind fun bt272 => (if bt272.2 = 0 then (if (bt272.1.length : Int) = (wrap64 ((wrap64 ((wrap64 (2 * x268000)) + 1)) * (wrap64 ((wrap64 (2 * x268001)) + 1)))) then ((steer_Prove.f x269000 x269001 x269002 x269003 bt272.1).bind fun t276 => (meridianlaw06_SteerGreatest.j1 k x1 bt272.1 (t276 != 0) x268000 x268001 x268002 x268003 x269000 x269001 x269002 x269003)) else (meridianlaw06_SteerGreatest.j1 k x1 bt272.1 true x268000 x268001 x268002 x268003 x269000 x269001 x269002 x269003)) else (meridianlaw06_SteerGreatest.j1 k x1 bt272.1 true x268000 x268001 x268002 x268003 x269000 x269001 x269002 x269003)))
def meridianlaw06_SteerGreatest.j1 : Nat → List Int → List Int → Bool → Int → Int → Int → Int → Int → Int → Int → Int → Option (Bool)
  | 0, _, _, _, _, _, _, _, _, _, _, _ => none
  | k + 1, x1, x6, x67, x268000, x268001, x268002, x268003, x269000, x269001, x269002, x269003 => if x67 = true then (some false) else (meridianlaw06_SteerGreatest.l0 k x1 x6 ([] : List Int) ([] : List Int) 0 x268000 x268001 x268002 x268003 x269000 x269001 x269002 x269003)
def meridianlaw06_SteerGreatest.l0 : Nat → List Int → List Int → List Int → List Int → Int → Int → Int → Int → Int → Int → Int → Int → Int → Option (Bool)
  | 0, _, _, _, _, _, _, _, _, _, _, _, _, _ => none
  | k + 1, x1, x6, x8, x9, x10, x268000, x268001, x268002, x268003, x269000, x269001, x269002, x269003 => if x10 < (x6.length : Int) then (if (x1.length : Int) > 0 then (if (x1.length : Int) = 0 then (none) else (if 0 ≤ (Int.tmod x10 (x1.length : Int)) then (if (Int.tmod x10 (x1.length : Int)) < (x1.length : Int) then (meridianlaw06_SteerGreatest.j3 k x1 x6 x8 x9 x10 (rd x1 (Int.tmod x10 (x1.length : Int))) x268000 x268001 x268002 x268003 x269000 x269001 x269002 x269003) else (none)) else (none))) else (meridianlaw06_SteerGreatest.j3 k x1 x6 x8 x9 x10 0 x268000 x268001 x268002 x268003 x269000 x269001 x269002 x269003)) else ((some (([x8, x9] : List (List Int)) : List (List Int))).bind fun y299 => (meridianlaw06_SteerGreatest.l1 k x6 y299 (y299.length : Int) 0 x269000 x269001 x269002 x269003))
def meridianlaw06_SteerGreatest.j3 : Nat → List Int → List Int → List Int → List Int → Int → Int → Int → Int → Int → Int → Int → Int → Int → Int → Option (Bool)
  | 0, _, _, _, _, _, _, _, _, _, _, _, _, _, _ => none
  | k + 1, x1, x6, x8, x9, x10, x11, x268000, x268001, x268002, x268003, x269000, x269001, x269002, x269003 => (meridiankit_Pick.f x11 (wrap64 ((wrap64 (2 * x268001)) + 2))).bind fun t278 => (if (wrap64 (t278 - x268001)) > x268001 then (if x8.length < 17592186044416 then ((some (x8 ++ [1000] : List Int)).bind fun y279 => (if 0 ≤ x10 then (if x10 < (x6.length : Int) then (if (Int.tmod x11 5) = 0 then (if x9.length < 17592186044416 then (meridianlaw06_SteerGreatest.l0 k x1 x6 y279 (x9 ++ [1000]) (wrap64 (x10 + 1)) x268000 x268001 x268002 x268003 x269000 x269001 x269002 x269003) else (none)) else (if x9.length < 17592186044416 then (meridianlaw06_SteerGreatest.l0 k x1 x6 y279 (x9 ++ [rd x6 x10]) (wrap64 (x10 + 1)) x268000 x268001 x268002 x268003 x269000 x269001 x269002 x269003) else (none))) else (none)) else (none))) else (none)) else (if x8.length < 17592186044416 then ((some (x8 ++ [wrap64 (t278 - x268001)] : List Int)).bind fun y289 => (if 0 ≤ x10 then (if x10 < (x6.length : Int) then (if (Int.tmod x11 5) = 0 then (if x9.length < 17592186044416 then (meridianlaw06_SteerGreatest.l0 k x1 x6 y289 (x9 ++ [wrap64 (t278 - x268001)]) (wrap64 (x10 + 1)) x268000 x268001 x268002 x268003 x269000 x269001 x269002 x269003) else (none)) else (if x9.length < 17592186044416 then (meridianlaw06_SteerGreatest.l0 k x1 x6 y289 (x9 ++ [rd x6 x10]) (wrap64 (x10 + 1)) x268000 x268001 x268002 x268003 x269000 x269001 x269002 x269003) else (none))) else (none)) else (none))) else (none)))
def meridianlaw06_SteerGreatest.l1 : Nat → List Int → List (List Int) → Int → Int → Int → Int → Int → Int → Option (Bool)
  | 0, _, _, _, _, _, _, _, _ => none
  | k + 1, x6, x115, x116, x117, x269000, x269001, x269002, x269003 => if x117 < x116 then (if 0 ≤ x117 then (if x117 < (x115.length : Int) then ((steer_Prove.f x269000 x269001 x269002 x269003 (rd_L2 x115 x117)).bind fun t304 => (if t304 = 0 then (meridianlaw06_SteerGreatest.l2 k x6 (rd_L2 x115 x117) 0 x115 x116 x117 x269000 x269001 x269002 x269003) else (meridianlaw06_SteerGreatest.l1 k x6 x115 x116 (wrap64 (x117 + 1)) x269000 x269001 x269002 x269003))) else (none)) else (none)) else ((meridianlaw06_awake.f).bind fun t302 => (some t302))
def meridianlaw06_SteerGreatest.l2 : Nat → List Int → List Int → Int → List (List Int) → Int → Int → Int → Int → Int → Int → Option (Bool)
  | 0, _, _, _, _, _, _, _, _, _, _ => none
  | k + 1, x6, x15, x16, x115, x116, x117, x269000, x269001, x269002, x269003 => if x16 < (x15.length : Int) then (if 0 ≤ x16 then (if (rd x15 x16) < 1000 then (if x16 < (x6.length : Int) then (if (rd x6 x16) ≥ 1000 then (some false) else (meridianlaw06_SteerGreatest.l2 k x6 x15 (wrap64 (x16 + 1)) x115 x116 x117 x269000 x269001 x269002 x269003)) else (none)) else (meridianlaw06_SteerGreatest.l2 k x6 x15 (wrap64 (x16 + 1)) x115 x116 x117 x269000 x269001 x269002 x269003)) else (none)) else (meridianlaw06_SteerGreatest.l1 k x6 x115 x116 (wrap64 (x117 + 1)) x269000 x269001 x269002 x269003)
end
def meridianlaw06_SteerGreatest.f (k : Nat) (a0_0 : Int) (a0_1 : Int) (a0_2 : Int) (a0_3 : Int) (l1 : List Int) : Option (Bool) := (meridianlaw06_big.f a0_0 a0_1 a0_2 a0_3).bind fun t269 => (if t269 = true then (meridianlaw06_SteerGreatest.j0 k l1 true a0_0 a0_1 a0_2 a0_3 a0_0 a0_1 a0_2 a0_3) else ((steer_Check.f a0_0 a0_1 a0_2 a0_3).bind fun t270 => (if t270 = 0 then (if a0_0 < 0 then (meridianlaw06_SteerGreatest.j0 k l1 true a0_0 a0_1 a0_2 a0_3 a0_0 a0_1 a0_2 a0_3) else (if a0_1 < 0 then (meridianlaw06_SteerGreatest.j0 k l1 true a0_0 a0_1 a0_2 a0_3 a0_0 a0_1 a0_2 a0_3) else (meridianlaw06_SteerGreatest.j0 k l1 (decide ((l1.length : Int) > 2000)) a0_0 a0_1 a0_2 a0_3 a0_0 a0_1 a0_2 a0_3))) else (meridianlaw06_SteerGreatest.j0 k l1 true a0_0 a0_1 a0_2 a0_3 a0_0 a0_1 a0_2 a0_3))))
theorem meridianlaw06_SteerGreatest.mono_l : ∀ k, (∀ y0 y1 y2 y3 y4 y5 y6 y7 y8 y9, LeO (meridianlaw06_SteerGreatest.j0 k y0 y1 y2 y3 y4 y5 y6 y7 y8 y9) (meridianlaw06_SteerGreatest.j0 (k + 1) y0 y1 y2 y3 y4 y5 y6 y7 y8 y9)) ∧ (∀ y0 y1 y2 y3 y4 y5 y6 y7 y8 y9 y10, LeO (meridianlaw06_SteerGreatest.j1 k y0 y1 y2 y3 y4 y5 y6 y7 y8 y9 y10) (meridianlaw06_SteerGreatest.j1 (k + 1) y0 y1 y2 y3 y4 y5 y6 y7 y8 y9 y10)) ∧ (∀ y0 y1 y2 y3 y4 y5 y6 y7 y8 y9 y10 y11 y12, LeO (meridianlaw06_SteerGreatest.l0 k y0 y1 y2 y3 y4 y5 y6 y7 y8 y9 y10 y11 y12) (meridianlaw06_SteerGreatest.l0 (k + 1) y0 y1 y2 y3 y4 y5 y6 y7 y8 y9 y10 y11 y12)) ∧ (∀ y0 y1 y2 y3 y4 y5 y6 y7 y8 y9 y10 y11 y12 y13, LeO (meridianlaw06_SteerGreatest.j3 k y0 y1 y2 y3 y4 y5 y6 y7 y8 y9 y10 y11 y12 y13) (meridianlaw06_SteerGreatest.j3 (k + 1) y0 y1 y2 y3 y4 y5 y6 y7 y8 y9 y10 y11 y12 y13)) ∧ (∀ y0 y1 y2 y3 y4 y5 y6 y7, LeO (meridianlaw06_SteerGreatest.l1 k y0 y1 y2 y3 y4 y5 y6 y7) (meridianlaw06_SteerGreatest.l1 (k + 1) y0 y1 y2 y3 y4 y5 y6 y7)) ∧ (∀ y0 y1 y2 y3 y4 y5 y6 y7 y8 y9, LeO (meridianlaw06_SteerGreatest.l2 k y0 y1 y2 y3 y4 y5 y6 y7 y8 y9) (meridianlaw06_SteerGreatest.l2 (k + 1) y0 y1 y2 y3 y4 y5 y6 y7 y8 y9))
  | 0 => ⟨fun _ _ _ _ _ _ _ _ _ _ r h => by simp [meridianlaw06_SteerGreatest.j0] at h, fun _ _ _ _ _ _ _ _ _ _ _ r h => by simp [meridianlaw06_SteerGreatest.j1] at h, fun _ _ _ _ _ _ _ _ _ _ _ _ _ r h => by simp [meridianlaw06_SteerGreatest.l0] at h, fun _ _ _ _ _ _ _ _ _ _ _ _ _ _ r h => by simp [meridianlaw06_SteerGreatest.j3] at h, fun _ _ _ _ _ _ _ _ r h => by simp [meridianlaw06_SteerGreatest.l1] at h, fun _ _ _ _ _ _ _ _ _ _ r h => by simp [meridianlaw06_SteerGreatest.l2] at h⟩
  | k + 1 => by
    obtain ⟨ih0, ih1, ih2, ih3, ih4, ih5⟩ := meridianlaw06_SteerGreatest.mono_l k
    refine ⟨?_, ?_, ?_, ?_, ?_, ?_⟩
    · intro y0 y1 y2 y3 y4 y5 y6 y7 y8 y9
      unfold meridianlaw06_SteerGreatest.j0
      repeat' first
      | (with_reducible exact ih0 _ _ _ _ _ _ _ _ _ _)
      | (with_reducible exact ih1 _ _ _ _ _ _ _ _ _ _ _)
      | (with_reducible exact ih2 _ _ _ _ _ _ _ _ _ _ _ _ _)
      | (with_reducible exact ih3 _ _ _ _ _ _ _ _ _ _ _ _ _ _)
      | (with_reducible exact ih4 _ _ _ _ _ _ _ _)
      | (with_reducible exact ih5 _ _ _ _ _ _ _ _ _ _)
      | (with_reducible exact LeO.refl _)
      | (with_reducible exact LeO.none _)
      | (with_reducible refine LeO.ite ?_ ?_)
      | (with_reducible refine LeO.bind ?_ (fun _ => ?_))
      | exact ih0 _ _ _ _ _ _ _ _ _ _
      | exact ih1 _ _ _ _ _ _ _ _ _ _ _
      | exact ih2 _ _ _ _ _ _ _ _ _ _ _ _ _
      | exact ih3 _ _ _ _ _ _ _ _ _ _ _ _ _ _
      | exact ih4 _ _ _ _ _ _ _ _
      | exact ih5 _ _ _ _ _ _ _ _ _ _
      | exact LeO.none _
      | refine LeO.ite ?_ ?_
      | refine LeO.bind ?_ (fun _ => ?_)
    · intro y0 y1 y2 y3 y4 y5 y6 y7 y8 y9 y10
      unfold meridianlaw06_SteerGreatest.j1
      repeat' first
      | (with_reducible exact ih0 _ _ _ _ _ _ _ _ _ _)
      | (with_reducible exact ih1 _ _ _ _ _ _ _ _ _ _ _)
      | (with_reducible exact ih2 _ _ _ _ _ _ _ _ _ _ _ _ _)
      | (with_reducible exact ih3 _ _ _ _ _ _ _ _ _ _ _ _ _ _)
      | (with_reducible exact ih4 _ _ _ _ _ _ _ _)
      | (with_reducible exact ih5 _ _ _ _ _ _ _ _ _ _)
      | (with_reducible exact LeO.refl _)
      | (with_reducible exact LeO.none _)
      | (with_reducible refine LeO.ite ?_ ?_)
      | (with_reducible refine LeO.bind ?_ (fun _ => ?_))
      | exact ih0 _ _ _ _ _ _ _ _ _ _
      | exact ih1 _ _ _ _ _ _ _ _ _ _ _
      | exact ih2 _ _ _ _ _ _ _ _ _ _ _ _ _
      | exact ih3 _ _ _ _ _ _ _ _ _ _ _ _ _ _
      | exact ih4 _ _ _ _ _ _ _ _
      | exact ih5 _ _ _ _ _ _ _ _ _ _
      | exact LeO.none _
      | refine LeO.ite ?_ ?_
      | refine LeO.bind ?_ (fun _ => ?_)
    · intro y0 y1 y2 y3 y4 y5 y6 y7 y8 y9 y10 y11 y12
      unfold meridianlaw06_SteerGreatest.l0
      repeat' first
      | (with_reducible exact ih0 _ _ _ _ _ _ _ _ _ _)
      | (with_reducible exact ih1 _ _ _ _ _ _ _ _ _ _ _)
      | (with_reducible exact ih2 _ _ _ _ _ _ _ _ _ _ _ _ _)
      | (with_reducible exact ih3 _ _ _ _ _ _ _ _ _ _ _ _ _ _)
      | (with_reducible exact ih4 _ _ _ _ _ _ _ _)
      | (with_reducible exact ih5 _ _ _ _ _ _ _ _ _ _)
      | (with_reducible exact LeO.refl _)
      | (with_reducible exact LeO.none _)
      | (with_reducible refine LeO.ite ?_ ?_)
      | (with_reducible refine LeO.bind ?_ (fun _ => ?_))
      | exact ih0 _ _ _ _ _ _ _ _ _ _
      | exact ih1 _ _ _ _ _ _ _ _ _ _ _
      | exact ih2 _ _ _ _ _ _ _ _ _ _ _ _ _
      | exact ih3 _ _ _ _ _ _ _ _ _ _ _ _ _ _
      | exact ih4 _ _ _ _ _ _ _ _
      | exact ih5 _ _ _ _ _ _ _ _ _ _
      | exact LeO.none _
      | refine LeO.ite ?_ ?_
      | refine LeO.bind ?_ (fun _ => ?_)
    · intro y0 y1 y2 y3 y4 y5 y6 y7 y8 y9 y10 y11 y12 y13
      unfold meridianlaw06_SteerGreatest.j3
      repeat' first
      | (with_reducible exact ih0 _ _ _ _ _ _ _ _ _ _)
      | (with_reducible exact ih1 _ _ _ _ _ _ _ _ _ _ _)
      | (with_reducible exact ih2 _ _ _ _ _ _ _ _ _ _ _ _ _)
      | (with_reducible exact ih3 _ _ _ _ _ _ _ _ _ _ _ _ _ _)
      | (with_reducible exact ih4 _ _ _ _ _ _ _ _)
      | (with_reducible exact ih5 _ _ _ _ _ _ _ _ _ _)
      | (with_reducible exact LeO.refl _)
      | (with_reducible exact LeO.none _)
      | (with_reducible refine LeO.ite ?_ ?_)
      | (with_reducible refine LeO.bind ?_ (fun _ => ?_))
      | exact ih0 _ _ _ _ _ _ _ _ _ _
      | exact ih1 _ _ _ _ _ _ _ _ _ _ _
      | exact ih2 _ _ _ _ _ _ _ _ _ _ _ _ _
      | exact ih3 _ _ _ _ _ _ _ _ _ _ _ _ _ _
      | exact ih4 _ _ _ _ _ _ _ _
      | exact ih5 _ _ _ _ _ _ _ _ _ _
      | exact LeO.none _
      | refine LeO.ite ?_ ?_
      | refine LeO.bind ?_ (fun _ => ?_)
    · intro y0 y1 y2 y3 y4 y5 y6 y7
      unfold meridianlaw06_SteerGreatest.l1
      repeat' first
      | (with_reducible exact ih0 _ _ _ _ _ _ _ _ _ _)
      | (with_reducible exact ih1 _ _ _ _ _ _ _ _ _ _ _)
      | (with_reducible exact ih2 _ _ _ _ _ _ _ _ _ _ _ _ _)
      | (with_reducible exact ih3 _ _ _ _ _ _ _ _ _ _ _ _ _ _)
      | (with_reducible exact ih4 _ _ _ _ _ _ _ _)
      | (with_reducible exact ih5 _ _ _ _ _ _ _ _ _ _)
      | (with_reducible exact LeO.refl _)
      | (with_reducible exact LeO.none _)
      | (with_reducible refine LeO.ite ?_ ?_)
      | (with_reducible refine LeO.bind ?_ (fun _ => ?_))
      | exact ih0 _ _ _ _ _ _ _ _ _ _
      | exact ih1 _ _ _ _ _ _ _ _ _ _ _
      | exact ih2 _ _ _ _ _ _ _ _ _ _ _ _ _
      | exact ih3 _ _ _ _ _ _ _ _ _ _ _ _ _ _
      | exact ih4 _ _ _ _ _ _ _ _
      | exact ih5 _ _ _ _ _ _ _ _ _ _
      | exact LeO.none _
      | refine LeO.ite ?_ ?_
      | refine LeO.bind ?_ (fun _ => ?_)
    · intro y0 y1 y2 y3 y4 y5 y6 y7 y8 y9
      unfold meridianlaw06_SteerGreatest.l2
      repeat' first
      | (with_reducible exact ih0 _ _ _ _ _ _ _ _ _ _)
      | (with_reducible exact ih1 _ _ _ _ _ _ _ _ _ _ _)
      | (with_reducible exact ih2 _ _ _ _ _ _ _ _ _ _ _ _ _)
      | (with_reducible exact ih3 _ _ _ _ _ _ _ _ _ _ _ _ _ _)
      | (with_reducible exact ih4 _ _ _ _ _ _ _ _)
      | (with_reducible exact ih5 _ _ _ _ _ _ _ _ _ _)
      | (with_reducible exact LeO.refl _)
      | (with_reducible exact LeO.none _)
      | (with_reducible refine LeO.ite ?_ ?_)
      | (with_reducible refine LeO.bind ?_ (fun _ => ?_))
      | exact ih0 _ _ _ _ _ _ _ _ _ _
      | exact ih1 _ _ _ _ _ _ _ _ _ _ _
      | exact ih2 _ _ _ _ _ _ _ _ _ _ _ _ _
      | exact ih3 _ _ _ _ _ _ _ _ _ _ _ _ _ _
      | exact ih4 _ _ _ _ _ _ _ _
      | exact ih5 _ _ _ _ _ _ _ _ _ _
      | exact LeO.none _
      | refine LeO.ite ?_ ?_
      | refine LeO.bind ?_ (fun _ => ?_)
theorem meridianlaw06_SteerGreatest.mono : ∀ a0 a1 a2 a3 a4 k, LeO (meridianlaw06_SteerGreatest.f k a0 a1 a2 a3 a4) (meridianlaw06_SteerGreatest.f (k + 1) a0 a1 a2 a3 a4) := by
  intro a0 a1 a2 a3 a4 k
  obtain ⟨ih0, ih1, ih2, ih3, ih4, ih5⟩ := meridianlaw06_SteerGreatest.mono_l k
  unfold meridianlaw06_SteerGreatest.f
  repeat' first
      | (with_reducible exact ih0 _ _ _ _ _ _ _ _ _ _)
      | (with_reducible exact ih1 _ _ _ _ _ _ _ _ _ _ _)
      | (with_reducible exact ih2 _ _ _ _ _ _ _ _ _ _ _ _ _)
      | (with_reducible exact ih3 _ _ _ _ _ _ _ _ _ _ _ _ _ _)
      | (with_reducible exact ih4 _ _ _ _ _ _ _ _)
      | (with_reducible exact ih5 _ _ _ _ _ _ _ _ _ _)
      | (with_reducible exact LeO.refl _)
      | (with_reducible exact LeO.none _)
      | (with_reducible refine LeO.ite ?_ ?_)
      | (with_reducible refine LeO.bind ?_ (fun _ => ?_))
      | exact ih0 _ _ _ _ _ _ _ _ _ _
      | exact ih1 _ _ _ _ _ _ _ _ _ _ _
      | exact ih2 _ _ _ _ _ _ _ _ _ _ _ _ _
      | exact ih3 _ _ _ _ _ _ _ _ _ _ _ _ _ _
      | exact ih4 _ _ _ _ _ _ _ _
      | exact ih5 _ _ _ _ _ _ _ _ _ _
      | exact LeO.none _
      | refine LeO.ite ?_ ?_
      | refine LeO.bind ?_ (fun _ => ?_)
end Go.Proofs.Ytcaekmalkbaldaa.M
