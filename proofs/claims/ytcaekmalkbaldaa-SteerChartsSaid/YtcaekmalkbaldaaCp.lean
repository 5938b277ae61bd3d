/- The program's and the reference's answers of the steering chapter are the same: indices, charts, widest errors, proofs. -/
import Derived.Test.YtcaekmalkbaldaaRw
import Derived.Test.YtcaekmalkbaldaaRp
namespace Go.Proofs.Ytcaekmalkbaldaa.M
set_option linter.unusedVariables false
set_option linter.unusedSimpArgs false
open Go.RowKit Go.Shelf Go.Proofs.YtcaekmalkbaldaaW.PrintWords Go.Proofs.YtcaekmalkbaldaaW.PrintLast Go.Proofs.YtcaekmalkbaldaaW.PrintMore
set_option linter.unusedVariables false
theorem same_l0 (l : List Int) (hl : l.length ≤ 1000000) : ∀ (d i : Nat), i + d = l.length → ∀ k, d < k → meridiankit_SameInts.l0 k l l (i : Int) = some true
  | 0, i, hd, k, hk => by
    obtain ⟨k, rfl⟩ : ∃ j, k = j + 1 := ⟨k - 1, by omega⟩
    unfold meridiankit_SameInts.l0
    rw [if_neg (by omega)]
  | d + 1, i, hd, k, hk => by
    obtain ⟨k, rfl⟩ : ∃ j, k = j + 1 := ⟨k - 1, by omega⟩
    have ih := same_l0 l hl d (i + 1) (by omega) k (by omega)
    unfold meridiankit_SameInts.l0
    rw [if_pos (by omega), if_pos (by omega), if_pos (by omega), if_pos rfl, wrap_small _ (by omega) (by omega)]
    exact ih
theorem same_f (l : List Int) (hl : l.length ≤ 1000000) : ∀ k, l.length < k → meridiankit_SameInts.f k l l = some true := fun k hk => by
  unfold meridiankit_SameInts.f
  rw [if_pos rfl]
  exact same_l0 l hl l.length 0 (by omega) k hk
theorem copy_f (l : List Int) (hl : l.length ≤ 1000000) : meridiankit_CopyInts.f l = some l := by
  have h : ([] : List Int).length + l.length < 17592186044416 := by rw [List.length_nil]; omega
  unfold meridiankit_CopyInts.f
  rw [if_pos h, List.nil_append]
section
variable (L R S N : Int)
theorem index_both (e r : Int) : ∃ i x, steer_Index.f L R S N e r = some (i, x) ∧ meridianref06_Index.f L R S N e r = some (i, x) := by
  by_cases hp : rightB L R S N = true
  · have h' := rightB_iff.1 hp
    by_cases hb : isB L R e r = true
    · refine ⟨_, 0, index_f hp hb, ?_⟩
      unfold meridianref06_Index.f
      rw [refcheck_f, if_pos hp, Option.bind_some, if_pos rfl, ref_is_f (by omega) (by omega) (by omega) (by omega), hb, Option.bind_some, if_pos rfl, ref_index_f (by omega) (by omega) (by omega) (by omega) hb]
      rfl
    · have hb' : isB L R e r = false := by simpa using hb
      refine ⟨0, 6, ?_, ?_⟩
      · unfold steer_Index.f
        rw [check_f, if_pos hp, Option.bind_some, if_pos rfl, is_f (by omega) (by omega) (by omega) (by omega), hb', Option.bind_some, if_neg (by simp)]
      · unfold meridianref06_Index.f
        rw [refcheck_f, if_pos hp, Option.bind_some, if_pos rfl, ref_is_f (by omega) (by omega) (by omega) (by omega), hb', Option.bind_some, if_neg (by simp)]
  · refine ⟨0, 60, ?_, ?_⟩
    · unfold steer_Index.f
      rw [check_f, if_neg hp, Option.bind_some, if_neg (by decide)]
    · unfold meridianref06_Index.f
      rw [refcheck_f, if_neg hp, Option.bind_some, if_neg (by decide)]
theorem chart_both : ∃ c x K, steer_Chart.f L R S N = some (c, x) ∧ c.length ≤ 2025 ∧ ∀ k, K ≤ k → meridianref06_Chart.f k L R S N = some (c, x) := by
  by_cases hp : rightB L R S N = true
  · have h' := rightB_iff.1 hp
    obtain ⟨c, hc⟩ := chart_some hp
    obtain ⟨K, hK⟩ := ref_chart_f hp hc
    obtain ⟨m, hs, _⟩ := (chart_says hc).2
    refine ⟨c, 0, K, ?_, by rw [hs.1]; exact siz_le L R (by omega) (by omega), hK⟩
    unfold steer_Chart.f
    rw [check_f, if_pos hp, hc]
    rfl
  · refine ⟨[], 60, 0, chart_wrong hp, by simp, fun k _ => ?_⟩
    unfold meridianref06_Chart.f
    rw [refcheck_f, if_neg hp, Option.bind_some, if_neg (by decide)]
theorem widest_both : ∃ (v : Int × Int) (K : Nat), ∀ k, K ≤ k → steer_Widest.f k L R S N = some v ∧ meridianref06_Widest.f k L R S N = some v := by
  by_cases hp : rightB L R S N = true
  · obtain ⟨c, hc⟩ := chart_some hp
    obtain ⟨K1, h1⟩ := widest_f hp hc
    obtain ⟨K2, h2⟩ := ref_widest_f hp hc
    exact ⟨_, K1 + K2, fun k hk => ⟨h1 k (by omega), h2 k (by omega)⟩⟩
  · refine ⟨(0, 60), 0, fun k _ => ⟨?_, ?_⟩⟩
    · unfold steer_Widest.f
      rw [check_f, if_neg hp, Option.bind_some, if_neg (by decide)]
    · unfold meridianref06_Widest.f meridianref06_Chart.f
      rw [refcheck_f, if_neg hp, Option.bind_some, if_neg (by decide), Option.bind_some, if_neg (by decide)]
theorem prove_both (l : List Int) : ∃ v K, steer_Prove.f L R S N l = some v ∧ ∀ k, K ≤ k → meridianref06_Prove.f k L R S N l = some v := by
  obtain ⟨K, hK⟩ := ref_prove_f L R S N l
  have : ∃ v, steer_Prove.f L R S N l = some v := by
    unfold steer_Prove.f
    split
    · split <;> exact ⟨_, rfl⟩
    · exact ⟨_, rfl⟩
  obtain ⟨v, hv⟩ := this
  exact ⟨v, K, hv, fun k hk => (hK k hk).trans hv⟩
end
end Go.Proofs.Ytcaekmalkbaldaa.M
