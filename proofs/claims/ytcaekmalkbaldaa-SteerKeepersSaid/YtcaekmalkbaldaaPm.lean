/- What the simple functions of the steering chapter answer, in plain Lean. -/
import Derived.Test.YtcaekmalkbaldaaCh
import Derived.Test.YtcaekmalkbaldaaM8
namespace Go.Proofs.Ytcaekmalkbaldaa.M
set_option linter.unusedVariables false
set_option linter.unusedSimpArgs false
open Go.RowKit Go.Shelf Go.Proofs.YtcaekmalkbaldaaW.PrintWords Go.Proofs.YtcaekmalkbaldaaW.PrintLast Go.Proofs.YtcaekmalkbaldaaW.PrintMore
set_option linter.unusedVariables false

theorem up_of {α : Type} {F : Nat → Option α} (hm : ∀ k, LeO (F k) (F (k + 1))) {v : α} {K : Nat} (h : F K = some v) : ∀ k, K ≤ k → F k = some v := by
  intro k hk
  induction k with
  | zero => rw [Nat.le_zero.1 hk] at h; exact h
  | succ k ih =>
    rcases Nat.lt_or_ge K (k + 1) with h1 | h1
    · exact hm k v (ih (by omega))
    · rw [Nat.le_antisymm h1 hk]; exact h
section
variable {L R S N : Int}
theorem in_f (a b c : Int) : steer_in.f a b c = some (decide (b ≤ a) && decide (a ≤ c)) := by
  unfold steer_in.f
  by_cases h : a ≥ b
  · rw [if_pos h]; simp [show b ≤ a from h]
  · rw [if_neg h]; simp [show ¬ b ≤ a from h]
theorem check_f (L R S N : Int) : steer_Check.f L R S N = some (if rightB L R S N = true then 0 else 60) := by
  unfold steer_Check.f
  simp only [in_f, Option.bind_some]
  have e : rightB L R S N = ((decide (1 ≤ L) && decide (L ≤ 40)) && ((decide (0 ≤ R) && decide (R ≤ 12)) && ((decide (1 ≤ S) && decide (S ≤ 24)) && (decide (0 ≤ N) && decide (N ≤ 12))))) := by
    simp only [rightB, Bool.and_assoc]
  rw [e]
  cases (decide (1 ≤ L) && decide (L ≤ 40)) <;> cases (decide (0 ≤ R) && decide (R ≤ 12)) <;> cases (decide (1 ≤ S) && decide (S ≤ 24)) <;> cases (decide (0 ≤ N) && decide (N ≤ 12)) <;> rfl
theorem is_f (hL0 : -1000 ≤ L) (hL : L ≤ 1000) (hR0 : -1000 ≤ R) (hR : R ≤ 1000) (x y : Int) : steer_Plan_is.f L R S N x y = some (isB L R x y) := by
  unfold steer_Plan_is.f isB
  rw [in_f, in_f, wrap_small _ (by omega) (by omega), wrap_small _ (by omega) (by omega)]
  simp only [Option.bind_some]
  cases h : (decide (-L ≤ x) && decide (x ≤ L))
  · simp
  · simp
theorem idx_bound {x y : Int} (hL : L ≤ 40) (hR : R ≤ 12) (hL0 : 1 ≤ L) (hR0 : 0 ≤ R) (hb : isB L R x y = true) : 0 ≤ (x + L) * (2 * R + 1) ∧ (x + L) * (2 * R + 1) ≤ 2000 := by
  have := isB_iff.1 hb
  refine ⟨Int.mul_nonneg (by omega) (by omega), ?_⟩
  have h1 : (x + L) * (2 * R + 1) ≤ 80 * 25 := Int.mul_le_mul (by omega) (by omega) (by omega) (by omega)
  omega
theorem index_f {x y : Int} (hr : rightB L R S N = true) (hb : isB L R x y = true) : steer_Index.f L R S N x y = some ((x + L) * (2 * R + 1) + y + R, 0) := by
  have h := rightB_iff.1 hr
  have h2 := isB_iff.1 hb
  unfold steer_Index.f
  rw [check_f, is_f (by omega) (by omega) (by omega) (by omega), if_pos hr, hb]
  simp only [Option.bind_some, if_true]
  unfold steer_Plan_index.f
  have h3 := idx_bound (by omega) (by omega) (by omega) (by omega) hb
  have e1 : wrap64 (x + L) = x + L := wrap_small _ (by omega) (by omega)
  have e2 : wrap64 (wrap64 (2 * R) + 1) = 2 * R + 1 := by rw [wrap_small (2 * R) (by omega) (by omega), wrap_small _ (by omega) (by omega)]
  rw [e1, e2]
  generalize (x + L) * (2 * R + 1) = z at h3 ⊢
  rw [wrap_small z (by omega) (by omega), wrap_small (z + y) (by omega) (by omega), wrap_small (z + y + R) (by omega) (by omega)]
  rfl
theorem chart_right (hr : rightB L R S N = true) : ∃ r, steer_Chart.f L R S N = some (r, 0) ∧ Chart L R S N r := by
  obtain ⟨r, h⟩ := chart_some hr
  refine ⟨r, ?_, (chart_says h).2⟩
  unfold steer_Chart.f
  rw [check_f, if_pos hr, h]
  rfl
theorem chart_wrong (hr : ¬ rightB L R S N = true) : steer_Chart.f L R S N = some ([], 60) := by
  unfold steer_Chart.f
  rw [check_f, if_neg hr]
  rfl
theorem Says.at {m : Nat} {r : List Int} (hs : Says L R S N m r) (hL0 : 1 ≤ L) (hR0 : 0 ≤ R) {x y : Int} (hb : isB L R x y = true) :
    ∃ j : Nat, j < r.length ∧ (x + L) * (2 * R + 1) + y + R = j ∧ (T L R S N m x y = true → rd r j < 1000) ∧
      (T L R S N m x y = false → ∃ k : Nat, 1 ≤ k ∧ rd r j = 1000 + (k : Int) ∧ T L R S N k x y = false ∧ T L R S N (k - 1) x y = true) := by
  obtain ⟨j, hj, he, hy, hi⟩ := st_of hL0 hR0 hb
  have h1 := hs.2 j hj
  rw [he, hy] at h1
  refine ⟨j, by rw [hs.1]; exact hj, hi, h1.1, fun ht => ?_⟩
  obtain ⟨k, _, hk⟩ := h1.2 ht
  exact ⟨k, hk⟩
theorem refcheck_f (L R S N : Int) : meridianref06_Check.f L R S N = some (if rightB L R S N = true then 0 else 60) := by
  unfold meridianref06_Check.f
  have := @rightB_iff L R S N
  by_cases h : rightB L R S N = true
  · have h' := this.1 h
    rw [if_pos h, if_neg (by omega), if_neg (by omega), if_neg (by omega), if_neg (by omega), if_neg (by omega), if_neg (by omega), if_neg (by omega), if_neg (by omega)]
  · rw [if_neg h]
    have h' : ¬ (1 ≤ L ∧ L ≤ 40 ∧ 0 ≤ R ∧ R ≤ 12 ∧ 1 ≤ S ∧ S ≤ 24 ∧ 0 ≤ N ∧ N ≤ 12) := fun e => h (this.2 e)
    repeat' (split; rfl)
    omega
theorem big_f (L R S N : Int) : meridianlaw06_big.f L R S N = some (decide (rightB L R S N = true) && decide (600 < (2 * L + 1) * (2 * R + 1))) := by
  unfold meridianlaw06_big.f
  rw [refcheck_f]
  by_cases h : rightB L R S N = true
  · have h' := rightB_iff.1 h
    have h1 : 0 ≤ (2 * L + 1) * (2 * R + 1) ∧ (2 * L + 1) * (2 * R + 1) ≤ 81 * 25 := ⟨Int.mul_nonneg (by omega) (by omega), Int.mul_le_mul (by omega) (by omega) (by omega) (by omega)⟩
    rw [if_pos h]
    simp only [Option.bind_some, if_true]
    rw [wrap_small (2 * L) (by omega) (by omega), wrap_small (2 * R) (by omega) (by omega), wrap_small (2 * L + 1) (by omega) (by omega), wrap_small (2 * R + 1) (by omega) (by omega)]
    generalize (2 * L + 1) * (2 * R + 1) = z at h1 ⊢
    rw [wrap_small z (by omega) (by omega)]
    simp [h]
  · rw [if_neg h]
    simp [h]
end
end Go.Proofs.Ytcaekmalkbaldaa.M
