-- Written by a program of this session (over the kit's print) out of the translation; the parts that it does not tell are this session's own.
import Derived.Test.YtcaekmalkbaldaaM0
import Derived.Test.YtcaekmalkbaldaaM2
import Derived.Test.YtcaekmalkbaldaaM6
import Derived.Test.YtcaekmalkbaldaaM8
import Derived.Test.YtcaekmalkbaldaaM9
import Derived.Test.YtcaekmalkbaldaaM10
namespace Go.Proofs.Ytcaekmalkbaldaa.M
open Go.RowKit Go.Proofs.YtcaekmalkbaldaaW.PrintWords Go.Proofs.YtcaekmalkbaldaaW.PrintLast Go.Proofs.YtcaekmalkbaldaaW.PrintMore
attribute [local go_sem] max2_int min2_int max_two min_two max_three min_three max_four min_four   -- for this text's walks alone
set_option linter.unusedVariables false
set_option linter.unusedSimpArgs false

/-! ### meridianlaw06_SteerGrows: function 3 -/
mutual
def meridianlaw06_SteerGrows.j0 : Nat → Int → Bool → Int → Int → Int → Int → Int → Int → Int → Int → Option (Bool)
  | 0, _, _, _, _, _, _, _, _, _, _ => none
  | k + 1, x1, x47, x191000, x191001, x191002, x191003, x192000, x192001, x192002, x192003 => if x47 = true then ((meridianlaw06_awake.f k).bind fun t194 => (some t194)) else ((meridiankit_Pick.f x1 4).bind fun t196 => (if t196 = 0 then (meridianlaw06_SteerGrows.j1 k x191000 x191001 x191002 x191003 x192000 x192001 x192002 x192003 (wrap64 (x192000 + 1)) x192001 x192002 x192003) else (if t196 = 1 then (meridianlaw06_SteerGrows.j1 k x191000 x191001 x191002 x191003 x192000 x192001 x192002 x192003 x192000 (wrap64 (x192001 + 1)) x192002 x192003) else (if t196 = 2 then (meridianlaw06_SteerGrows.j1 k x191000 x191001 x191002 x191003 x192000 x192001 x192002 x192003 x192000 x192001 (wrap64 (x192002 + 1)) x192003) else (if t196 = 3 then (meridianlaw06_SteerGrows.j1 k x191000 x191001 x191002 x191003 x192000 x192001 x192002 x192003 x192000 x192001 x192002 (wrap64 (x192003 - 1))) else (meridianlaw06_SteerGrows.j1 k x191000 x191001 x191002 x191003 x192000 x192001 x192002 x192003 x192000 x192001 x192002 x192003))))))
def meridianlaw06_SteerGrows.j1 : Nat → Int → Int → Int → Int → Int → Int → Int → Int → Int → Int → Int → Int → Option (Bool)
  | 0, _, _, _, _, _, _, _, _, _, _, _, _ => none
  | k + 1, x191000, x191001, x191002, x191003, x192000, x192001, x192002, x192003, x196000, x196001, x196002, x196003 => (steer_Chart.f x192000 x192001 x192002 x192003).bind fun bt197 => (if bt197.2 = 0 then ((steer_Chart.f x196000 x196001 x196002 x196003).bind fun bt201 => (meridianlaw06_SteerGrows.l0 k bt197.1 bt201.1 bt201.2 (wrap64 (-x191000)) x191000 x191001 x191002 x191003 x192000 x192001 x192002 x192003 x196000 x196001 x196002 x196003)) else (some false))
def meridianlaw06_SteerGrows.l0 : Nat → List Int → List Int → Int → Int → Int → Int → Int → Int → Int → Int → Int → Int → Int → Int → Int → Int → Option (Bool)
  | 0, _, _, _, _, _, _, _, _, _, _, _, _, _, _, _, _ => none
  | k + 1, x7, x9, x10, x11, x191000, x191001, x191002, x191003, x192000, x192001, x192002, x192003, x196000, x196001, x196002, x196003 => if x11 ≤ x191000 then (meridianlaw06_SteerGrows.l1 k x7 x9 x10 x11 (wrap64 (-x191001)) x191000 x191001 x191002 x191003 x192000 x192001 x192002 x192003 x196000 x196001 x196002 x196003) else ((meridianlaw06_awake.f k).bind fun t205 => (some t205))
def meridianlaw06_SteerGrows.l1 : Nat → List Int → List Int → Int → Int → Int → Int → Int → Int → Int → Int → Int → Int → Int → Int → Int → Int → Int → Option (Bool)
  | 0, _, _, _, _, _, _, _, _, _, _, _, _, _, _, _, _, _ => none
  | k + 1, x7, x9, x10, x11, x12, x191000, x191001, x191002, x191003, x192000, x192001, x192002, x192003, x196000, x196001, x196002, x196003 => if x12 ≤ x191001 then ((steer_Index.f x192000 x192001 x192002 x192003 x11 x12).bind fun bt206 => ((steer_Index.f x192000 x192001 x192002 x192003 (wrap64 (-x11)) (wrap64 (-x12))).bind fun bt208 => (if bt206.2 = 0 then (if bt208.2 = 0 then (if bt206.1 < 0 then (meridianlaw06_SteerGrows.j4 k x7 x9 x10 x11 x12 bt206.1 true x191000 x191001 x191002 x191003 x192000 x192001 x192002 x192003 x196000 x196001 x196002 x196003) else (if bt208.1 < 0 then (meridianlaw06_SteerGrows.j4 k x7 x9 x10 x11 x12 bt206.1 true x191000 x191001 x191002 x191003 x192000 x192001 x192002 x192003 x196000 x196001 x196002 x196003) else (if bt206.1 ≥ (x7.length : Int) then (meridianlaw06_SteerGrows.j4 k x7 x9 x10 x11 x12 bt206.1 true x191000 x191001 x191002 x191003 x192000 x192001 x192002 x192003 x196000 x196001 x196002 x196003) else (if bt208.1 ≥ (x7.length : Int) then (meridianlaw06_SteerGrows.j4 k x7 x9 x10 x11 x12 bt206.1 true x191000 x191001 x191002 x191003 x192000 x192001 x192002 x192003 x196000 x196001 x196002 x196003) else (if 0 ≤ bt206.1 then (if bt206.1 < (x7.length : Int) then (if (rd x7 bt206.1) ≥ 1000 then (if 0 ≤ bt208.1 then (if bt208.1 < (x7.length : Int) then (meridianlaw06_SteerGrows.j4 k x7 x9 x10 x11 x12 bt206.1 ((rd x7 bt206.1) != (rd x7 bt208.1)) x191000 x191001 x191002 x191003 x192000 x192001 x192002 x192003 x196000 x196001 x196002 x196003) else (none)) else (none)) else (if 0 ≤ bt208.1 then (if bt208.1 < (x7.length : Int) then (if (rd x7 bt208.1) ≥ 1000 then (meridianlaw06_SteerGrows.j4 k x7 x9 x10 x11 x12 bt206.1 ((rd x7 bt206.1) != (rd x7 bt208.1)) x191000 x191001 x191002 x191003 x192000 x192001 x192002 x192003 x196000 x196001 x196002 x196003) else (meridianlaw06_SteerGrows.j4 k x7 x9 x10 x11 x12 bt206.1 false x191000 x191001 x191002 x191003 x192000 x192001 x192002 x192003 x196000 x196001 x196002 x196003)) else (none)) else (none))) else (none)) else (none)))))) else (meridianlaw06_SteerGrows.j4 k x7 x9 x10 x11 x12 bt206.1 true x191000 x191001 x191002 x191003 x192000 x192001 x192002 x192003 x196000 x196001 x196002 x196003)) else (meridianlaw06_SteerGrows.j4 k x7 x9 x10 x11 x12 bt206.1 true x191000 x191001 x191002 x191003 x192000 x192001 x192002 x192003 x196000 x196001 x196002 x196003)))) else (meridianlaw06_SteerGrows.l0 k x7 x9 x10 (wrap64 (x11 + 1)) x191000 x191001 x191002 x191003 x192000 x192001 x192002 x192003 x196000 x196001 x196002 x196003)
def meridianlaw06_SteerGrows.j4 : Nat → List Int → List Int → Int → Int → Int → Int → Bool → Int → Int → Int → Int → Int → Int → Int → Int → Int → Int → Int → Int → Option (Bool)
  | 0, _, _, _, _, _, _, _, _, _, _, _, _, _, _, _, _, _, _, _ => none
  | k + 1, x7, x9, x10, x11, x12, x13, x172, x191000, x191001, x191002, x191003, x192000, x192001, x192002, x192003, x196000, x196001, x196002, x196003 => if x172 = true then (some false) else (if x10 = 0 then ((steer_Index.f x196000 x196001 x196002 x196003 x11 x12).bind fun bt216 => (if bt216.2 = 0 then (if bt216.1 < 0 then (some false) else (if bt216.1 ≥ (x9.length : Int) then (some false) else (if 0 ≤ x13 then (if x13 < (x7.length : Int) then (if (rd x7 x13) < 1000 then (if 0 ≤ bt216.1 then (if bt216.1 < (x9.length : Int) then (if (rd x9 bt216.1) ≥ 1000 then (some false) else (meridianlaw06_SteerGrows.l1 k x7 x9 x10 x11 (wrap64 (x12 + 1)) x191000 x191001 x191002 x191003 x192000 x192001 x192002 x192003 x196000 x196001 x196002 x196003)) else (none)) else (none)) else (meridianlaw06_SteerGrows.l1 k x7 x9 x10 x11 (wrap64 (x12 + 1)) x191000 x191001 x191002 x191003 x192000 x192001 x192002 x192003 x196000 x196001 x196002 x196003)) else (none)) else (none)))) else (some false))) else (meridianlaw06_SteerGrows.l1 k x7 x9 x10 x11 (wrap64 (x12 + 1)) x191000 x191001 x191002 x191003 x192000 x192001 x192002 x192003 x196000 x196001 x196002 x196003))
end
def meridianlaw06_SteerGrows.f (k : Nat) (a0_0 : Int) (a0_1 : Int) (a0_2 : Int) (a0_3 : Int) (a1 : Int) : Option (Bool) := (meridianlaw06_big.f a0_0 a0_1 a0_2 a0_3).bind fun t192 => (if t192 = true then (meridianlaw06_SteerGrows.j0 k a1 true a0_0 a0_1 a0_2 a0_3 a0_0 a0_1 a0_2 a0_3) else ((steer_Check.f a0_0 a0_1 a0_2 a0_3).bind fun t193 => (if t193 = 0 then (if a0_0 < 0 then (meridianlaw06_SteerGrows.j0 k a1 true a0_0 a0_1 a0_2 a0_3 a0_0 a0_1 a0_2 a0_3) else (if a0_1 < 0 then (meridianlaw06_SteerGrows.j0 k a1 true a0_0 a0_1 a0_2 a0_3 a0_0 a0_1 a0_2 a0_3) else (meridianlaw06_SteerGrows.j0 k a1 (decide ((wrap64 ((wrap64 ((wrap64 (2 * a0_0)) + 1)) * (wrap64 ((wrap64 (2 * a0_1)) + 1)))) > 300)) a0_0 a0_1 a0_2 a0_3 a0_0 a0_1 a0_2 a0_3))) else (meridianlaw06_SteerGrows.j0 k a1 true a0_0 a0_1 a0_2 a0_3 a0_0 a0_1 a0_2 a0_3))))
theorem meridianlaw06_SteerGrows.mono_l : ∀ k, (∀ y0 y1 y2 y3 y4 y5 y6 y7 y8 y9, LeO (meridianlaw06_SteerGrows.j0 k y0 y1 y2 y3 y4 y5 y6 y7 y8 y9) (meridianlaw06_SteerGrows.j0 (k + 1) y0 y1 y2 y3 y4 y5 y6 y7 y8 y9)) ∧ (∀ y0 y1 y2 y3 y4 y5 y6 y7 y8 y9 y10 y11, LeO (meridianlaw06_SteerGrows.j1 k y0 y1 y2 y3 y4 y5 y6 y7 y8 y9 y10 y11) (meridianlaw06_SteerGrows.j1 (k + 1) y0 y1 y2 y3 y4 y5 y6 y7 y8 y9 y10 y11)) ∧ (∀ y0 y1 y2 y3 y4 y5 y6 y7 y8 y9 y10 y11 y12 y13 y14 y15, LeO (meridianlaw06_SteerGrows.l0 k y0 y1 y2 y3 y4 y5 y6 y7 y8 y9 y10 y11 y12 y13 y14 y15) (meridianlaw06_SteerGrows.l0 (k + 1) y0 y1 y2 y3 y4 y5 y6 y7 y8 y9 y10 y11 y12 y13 y14 y15)) ∧ (∀ y0 y1 y2 y3 y4 y5 y6 y7 y8 y9 y10 y11 y12 y13 y14 y15 y16, LeO (meridianlaw06_SteerGrows.l1 k y0 y1 y2 y3 y4 y5 y6 y7 y8 y9 y10 y11 y12 y13 y14 y15 y16) (meridianlaw06_SteerGrows.l1 (k + 1) y0 y1 y2 y3 y4 y5 y6 y7 y8 y9 y10 y11 y12 y13 y14 y15 y16)) ∧ (∀ y0 y1 y2 y3 y4 y5 y6 y7 y8 y9 y10 y11 y12 y13 y14 y15 y16 y17 y18, LeO (meridianlaw06_SteerGrows.j4 k y0 y1 y2 y3 y4 y5 y6 y7 y8 y9 y10 y11 y12 y13 y14 y15 y16 y17 y18) (meridianlaw06_SteerGrows.j4 (k + 1) y0 y1 y2 y3 y4 y5 y6 y7 y8 y9 y10 y11 y12 y13 y14 y15 y16 y17 y18))
  | 0 => ⟨fun _ _ _ _ _ _ _ _ _ _ r h => by simp [meridianlaw06_SteerGrows.j0] at h, fun _ _ _ _ _ _ _ _ _ _ _ _ r h => by simp [meridianlaw06_SteerGrows.j1] at h, fun _ _ _ _ _ _ _ _ _ _ _ _ _ _ _ _ r h => by simp [meridianlaw06_SteerGrows.l0] at h, fun _ _ _ _ _ _ _ _ _ _ _ _ _ _ _ _ _ r h => by simp [meridianlaw06_SteerGrows.l1] at h, fun _ _ _ _ _ _ _ _ _ _ _ _ _ _ _ _ _ _ _ r h => by simp [meridianlaw06_SteerGrows.j4] at h⟩
  | k + 1 => by
    obtain ⟨ih0, ih1, ih2, ih3, ih4⟩ := meridianlaw06_SteerGrows.mono_l k
    refine ⟨?_, ?_, ?_, ?_, ?_⟩
    · intro y0 y1 y2 y3 y4 y5 y6 y7 y8 y9
      unfold meridianlaw06_SteerGrows.j0
      repeat' first
      | (with_reducible exact ih0 _ _ _ _ _ _ _ _ _ _)
      | (with_reducible exact ih1 _ _ _ _ _ _ _ _ _ _ _ _)
      | (with_reducible exact ih2 _ _ _ _ _ _ _ _ _ _ _ _ _ _ _ _)
      | (with_reducible exact ih3 _ _ _ _ _ _ _ _ _ _ _ _ _ _ _ _ _)
      | (with_reducible exact ih4 _ _ _ _ _ _ _ _ _ _ _ _ _ _ _ _ _ _ _)
      | (with_reducible exact meridianlaw06_awake.mono _)
      | (with_reducible exact LeO.refl _)
      | (with_reducible exact LeO.none _)
      | (with_reducible refine LeO.ite ?_ ?_)
      | (with_reducible refine LeO.bind ?_ (fun _ => ?_))
      | exact ih0 _ _ _ _ _ _ _ _ _ _
      | exact ih1 _ _ _ _ _ _ _ _ _ _ _ _
      | exact ih2 _ _ _ _ _ _ _ _ _ _ _ _ _ _ _ _
      | exact ih3 _ _ _ _ _ _ _ _ _ _ _ _ _ _ _ _ _
      | exact ih4 _ _ _ _ _ _ _ _ _ _ _ _ _ _ _ _ _ _ _
      | exact meridianlaw06_awake.mono _
      | exact LeO.none _
      | refine LeO.ite ?_ ?_
      | refine LeO.bind ?_ (fun _ => ?_)
    · intro y0 y1 y2 y3 y4 y5 y6 y7 y8 y9 y10 y11
      unfold meridianlaw06_SteerGrows.j1
      repeat' first
      | (with_reducible exact ih0 _ _ _ _ _ _ _ _ _ _)
      | (with_reducible exact ih1 _ _ _ _ _ _ _ _ _ _ _ _)
      | (with_reducible exact ih2 _ _ _ _ _ _ _ _ _ _ _ _ _ _ _ _)
      | (with_reducible exact ih3 _ _ _ _ _ _ _ _ _ _ _ _ _ _ _ _ _)
      | (with_reducible exact ih4 _ _ _ _ _ _ _ _ _ _ _ _ _ _ _ _ _ _ _)
      | (with_reducible exact meridianlaw06_awake.mono _)
      | (with_reducible exact LeO.refl _)
      | (with_reducible exact LeO.none _)
      | (with_reducible refine LeO.ite ?_ ?_)
      | (with_reducible refine LeO.bind ?_ (fun _ => ?_))
      | exact ih0 _ _ _ _ _ _ _ _ _ _
      | exact ih1 _ _ _ _ _ _ _ _ _ _ _ _
      | exact ih2 _ _ _ _ _ _ _ _ _ _ _ _ _ _ _ _
      | exact ih3 _ _ _ _ _ _ _ _ _ _ _ _ _ _ _ _ _
      | exact ih4 _ _ _ _ _ _ _ _ _ _ _ _ _ _ _ _ _ _ _
      | exact meridianlaw06_awake.mono _
      | exact LeO.none _
      | refine LeO.ite ?_ ?_
      | refine LeO.bind ?_ (fun _ => ?_)
    · intro y0 y1 y2 y3 y4 y5 y6 y7 y8 y9 y10 y11 y12 y13 y14 y15
      unfold meridianlaw06_SteerGrows.l0
      repeat' first
      | (with_reducible exact ih0 _ _ _ _ _ _ _ _ _ _)
      | (with_reducible exact ih1 _ _ _ _ _ _ _ _ _ _ _ _)
      | (with_reducible exact ih2 _ _ _ _ _ _ _ _ _ _ _ _ _ _ _ _)
      | (with_reducible exact ih3 _ _ _ _ _ _ _ _ _ _ _ _ _ _ _ _ _)
      | (with_reducible exact ih4 _ _ _ _ _ _ _ _ _ _ _ _ _ _ _ _ _ _ _)
      | (with_reducible exact meridianlaw06_awake.mono _)
      | (with_reducible exact LeO.refl _)
      | (with_reducible exact LeO.none _)
      | (with_reducible refine LeO.ite ?_ ?_)
      | (with_reducible refine LeO.bind ?_ (fun _ => ?_))
      | exact ih0 _ _ _ _ _ _ _ _ _ _
      | exact ih1 _ _ _ _ _ _ _ _ _ _ _ _
      | exact ih2 _ _ _ _ _ _ _ _ _ _ _ _ _ _ _ _
      | exact ih3 _ _ _ _ _ _ _ _ _ _ _ _ _ _ _ _ _
      | exact ih4 _ _ _ _ _ _ _ _ _ _ _ _ _ _ _ _ _ _ _
      | exact meridianlaw06_awake.mono _
      | exact LeO.none _
      | refine LeO.ite ?_ ?_
      | refine LeO.bind ?_ (fun _ => ?_)
    · intro y0 y1 y2 y3 y4 y5 y6 y7 y8 y9 y10 y11 y12 y13 y14 y15 y16
      unfold meridianlaw06_SteerGrows.l1
      repeat' first
      | (with_reducible exact ih0 _ _ _ _ _ _ _ _ _ _)
      | (with_reducible exact ih1 _ _ _ _ _ _ _ _ _ _ _ _)
      | (with_reducible exact ih2 _ _ _ _ _ _ _ _ _ _ _ _ _ _ _ _)
      | (with_reducible exact ih3 _ _ _ _ _ _ _ _ _ _ _ _ _ _ _ _ _)
      | (with_reducible exact ih4 _ _ _ _ _ _ _ _ _ _ _ _ _ _ _ _ _ _ _)
      | (with_reducible exact meridianlaw06_awake.mono _)
      | (with_reducible exact LeO.refl _)
      | (with_reducible exact LeO.none _)
      | (with_reducible refine LeO.ite ?_ ?_)
      | (with_reducible refine LeO.bind ?_ (fun _ => ?_))
      | exact ih0 _ _ _ _ _ _ _ _ _ _
      | exact ih1 _ _ _ _ _ _ _ _ _ _ _ _
      | exact ih2 _ _ _ _ _ _ _ _ _ _ _ _ _ _ _ _
      | exact ih3 _ _ _ _ _ _ _ _ _ _ _ _ _ _ _ _ _
      | exact ih4 _ _ _ _ _ _ _ _ _ _ _ _ _ _ _ _ _ _ _
      | exact meridianlaw06_awake.mono _
      | exact LeO.none _
      | refine LeO.ite ?_ ?_
      | refine LeO.bind ?_ (fun _ => ?_)
    · intro y0 y1 y2 y3 y4 y5 y6 y7 y8 y9 y10 y11 y12 y13 y14 y15 y16 y17 y18
      unfold meridianlaw06_SteerGrows.j4
      repeat' first
      | (with_reducible exact ih0 _ _ _ _ _ _ _ _ _ _)
      | (with_reducible exact ih1 _ _ _ _ _ _ _ _ _ _ _ _)
      | (with_reducible exact ih2 _ _ _ _ _ _ _ _ _ _ _ _ _ _ _ _)
      | (with_reducible exact ih3 _ _ _ _ _ _ _ _ _ _ _ _ _ _ _ _ _)
      | (with_reducible exact ih4 _ _ _ _ _ _ _ _ _ _ _ _ _ _ _ _ _ _ _)
      | (with_reducible exact meridianlaw06_awake.mono _)
      | (with_reducible exact LeO.refl _)
      | (with_reducible exact LeO.none _)
      | (with_reducible refine LeO.ite ?_ ?_)
      | (with_reducible refine LeO.bind ?_ (fun _ => ?_))
      | exact ih0 _ _ _ _ _ _ _ _ _ _
      | exact ih1 _ _ _ _ _ _ _ _ _ _ _ _
      | exact ih2 _ _ _ _ _ _ _ _ _ _ _ _ _ _ _ _
      | exact ih3 _ _ _ _ _ _ _ _ _ _ _ _ _ _ _ _ _
      | exact ih4 _ _ _ _ _ _ _ _ _ _ _ _ _ _ _ _ _ _ _
      | exact meridianlaw06_awake.mono _
      | exact LeO.none _
      | refine LeO.ite ?_ ?_
      | refine LeO.bind ?_ (fun _ => ?_)
theorem meridianlaw06_SteerGrows.mono : ∀ a0 a1 a2 a3 a4 k, LeO (meridianlaw06_SteerGrows.f k a0 a1 a2 a3 a4) (meridianlaw06_SteerGrows.f (k + 1) a0 a1 a2 a3 a4) := by
  intro a0 a1 a2 a3 a4 k
  obtain ⟨ih0, ih1, ih2, ih3, ih4⟩ := meridianlaw06_SteerGrows.mono_l k
  unfold meridianlaw06_SteerGrows.f
  repeat' first
      | (with_reducible exact ih0 _ _ _ _ _ _ _ _ _ _)
      | (with_reducible exact ih1 _ _ _ _ _ _ _ _ _ _ _ _)
      | (with_reducible exact ih2 _ _ _ _ _ _ _ _ _ _ _ _ _ _ _ _)
      | (with_reducible exact ih3 _ _ _ _ _ _ _ _ _ _ _ _ _ _ _ _ _)
      | (with_reducible exact ih4 _ _ _ _ _ _ _ _ _ _ _ _ _ _ _ _ _ _ _)
      | (with_reducible exact meridianlaw06_awake.mono _)
      | (with_reducible exact LeO.refl _)
      | (with_reducible exact LeO.none _)
      | (with_reducible refine LeO.ite ?_ ?_)
      | (with_reducible refine LeO.bind ?_ (fun _ => ?_))
      | exact ih0 _ _ _ _ _ _ _ _ _ _
      | exact ih1 _ _ _ _ _ _ _ _ _ _ _ _
      | exact ih2 _ _ _ _ _ _ _ _ _ _ _ _ _ _ _ _
      | exact ih3 _ _ _ _ _ _ _ _ _ _ _ _ _ _ _ _ _
      | exact ih4 _ _ _ _ _ _ _ _ _ _ _ _ _ _ _ _ _ _ _
      | exact meridianlaw06_awake.mono _
      | exact LeO.none _
      | refine LeO.ite ?_ ?_
      | refine LeO.bind ?_ (fun _ => ?_)
end Go.Proofs.Ytcaekmalkbaldaa.M
