/- Laws of the steering chapter that are proved, in plain Lean: the chart is, and a law that is proved is meant for states of the safe set alone. -/
import Derived.Test.YtcaekmalkbaldaaPm
import Derived.Test.YtcaekmalkbaldaaM13
namespace Go.Proofs.Ytcaekmalkbaldaa.M
open Go.RowKit Go.Shelf Go.Proofs.YtcaekmalkbaldaaW.PrintWords Go.Proofs.YtcaekmalkbaldaaW.PrintLast Go.Proofs.YtcaekmalkbaldaaW.PrintMore
set_option linter.unusedVariables false
section
variable {L R S N : Int}
theorem chartF_fin (hL0 : 1 ≤ L) (hR0 : 0 ≤ R) (hR : R ≤ 12) : ∀ (f n : Nat) (o r : List Int), Says L R S N n o → chartF L R S N f ((n : Int) + 1) o = some r →
    ∃ m o', Says L R S N m o' ∧ Says L R S N m r ∧ (∀ e y, T L R S N m e y = true → T L R S N (m + 1) e y = true) ∧ ∀ j : Nat, j < siz L R → rd r j = roundV L R S N o' j ∧ lostB L R S N o' j = false
  | 0, _, _, _, _, h => by simp [chartF] at h
  | f + 1, n, o, r, hs, h => by
    obtain ⟨h1, h2, h3⟩ := fold_spec L R S N hL0 hR0 hR o hs.1 (siz L R) (Nat.le_refl _)
    unfold chartF at h
    generalize (List.range (siz L R)).foldl (stepC L R S N) (o, []) = st at h1 h2 h3 h
    have hv : ∀ j : Nat, j < siz L R → rd st.1 j = roundV L R S N o j := fun j hj => by rw [h2 j hj, if_pos hj]
    have hmem : ∀ j : Nat, j < siz L R → (j ∈ st.2 ↔ (T L R S N n (stE L R j) (stR R j) && !T L R S N (n + 1) (stE L R j) (stR R j)) = true) := fun j hj => by
      rw [h3, List.mem_filter, lostB_iff hL0 hR0 hs hj, List.mem_range]
      exact ⟨fun h => h.2, fun h => ⟨hj, h⟩⟩
    have hold : ∀ j : Nat, j < siz L R → ∀ m : Int, 0 ≤ m → rd o j = 1000 + m → rd st.1 j = 1000 + m := fun j hj m hm e => by
      rw [hv j hj]; unfold roundV; rw [if_neg (by omega), e]
    by_cases hc : st.2 = []
    · rw [if_pos hc] at h
      obtain rfl := Option.some.inj h
      refine ⟨n, o, hs, ⟨h1, fun j hj => ⟨fun ht => ?_, fun ht => ?_⟩⟩, fun e y ht => ?_, fun j hj => ⟨hv j hj, ?_⟩⟩
      · rw [hv j hj]
        exact (roundV_lt L R S N hR o j).2 ((hs.2 j hj).1 ht)
      · obtain ⟨m, hm1, hm2, hm3, hm4⟩ := (hs.2 j hj).2 ht
        exact ⟨m, hm1, hm2, hold j hj m (by omega) hm3, hm4⟩
      · obtain ⟨j, hj, he, hy, _⟩ := st_of hL0 hR0 (T_bound n ht)
        have := hmem j hj
        rw [hc, he, hy, ht] at this
        cases h5 : T L R S N (n + 1) e y
        · rw [h5] at this; exact absurd (this.2 rfl) (by simp)
        · rfl
      · have : j ∉ (List.range (siz L R)).filter (lostB L R S N o) := by rw [← h3, hc]; simp
        rw [List.mem_filter, List.mem_range] at this
        cases hl : lostB L R S N o j
        · rfl
        · exact absurd ⟨hj, hl⟩ this
    · rw [if_neg hc] at h
      have hlen : ∀ i ∈ st.2, i < st.1.length := fun i hi => by
        rw [h3, List.mem_filter, List.mem_range] at hi
        rw [h1]; exact hi.1
      refine chartF_fin hL0 hR0 hR f (n + 1) (markC ((n : Int) + 1) st.1 st.2) r ⟨by rw [markC_len, h1], fun j hj => ⟨fun ht => ?_, fun ht => ?_⟩⟩ (by rw [show (((n + 1 : Nat) : Int) + 1) = (n : Int) + 1 + 1 by omega]; exact h)
      · have h4 := T_le ht (Nat.le_succ n)
        rw [markC_rd _ _ _ _ hlen, if_neg (fun hm => by rw [hmem j hj, h4, ht] at hm; simp at hm), hv j hj]
        exact (roundV_lt L R S N hR o j).2 ((hs.2 j hj).1 h4)
      · rw [markC_rd _ _ _ _ hlen]
        cases h4 : T L R S N n (stE L R j) (stR R j)
        · obtain ⟨m, hm1, hm2, hm3, hm4⟩ := (hs.2 j hj).2 h4
          refine ⟨m, by omega, hm2, ?_, hm4⟩
          rw [if_neg (fun hm => by rw [hmem j hj, h4] at hm; simp at hm)]
          exact hold j hj m (by omega) hm3
        · refine ⟨n + 1, Nat.le_refl _, by omega, ?_, ht, h4⟩
          rw [if_pos ((hmem j hj).2 (by rw [h4, ht]; rfl))]
          omega

/-- The chart: what it says, and that a safe state's rate is one that holds. -/
theorem chart_best {r : List Int} (h : steer_Plan_chart.f L R S N = some r) : ∃ m, Says L R S N m r ∧ (∀ e y, T L R S N m e y = true → T L R S N (m + 1) e y = true) ∧
    ∀ j : Nat, j < siz L R → rd r j < 1000 → rd r j ∈ ratesL R S (stR R j) ∧ holdsB L R N (stE L R j) (rd r j) (goodO L R r) = true := by
  unfold steer_Plan_chart.f at h
  split at h
  · rename_i hr
    have h' := rightB_iff.1 hr
    have hs0 : Says L R S N 0 (List.replicate (siz L R) 0) := by
      refine ⟨List.length_replicate, fun j hj => ⟨fun _ => ?_, fun ht => ?_⟩⟩
      · rw [rd_nat, List.getD_eq_getElem?_getD, List.getElem?_replicate, if_pos hj]; decide
      · have h1 := st_bounds L R (by omega) (by omega) j hj
        rw [show T L R S N 0 (stE L R j) (stR R j) = true from isB_iff.2 h1] at ht
        cases ht
    obtain ⟨m, o, hs, hsr, hst, hv⟩ := chartF_fin (by omega) (by omega) (by omega) _ 0 _ r hs0 h
    refine ⟨m, hsr, hst, fun j hj hlt => ?_⟩
    obtain ⟨e1, e2⟩ := hv j hj
    rw [e1] at hlt ⊢
    have hlo := (roundV_lt L R S N (by omega) o j).1 hlt
    unfold roundV at hlt ⊢
    rw [if_pos hlo] at hlt ⊢
    unfold lostB at e2
    rw [decide_eq_true hlo, Bool.true_and] at e2
    cases hb : bestOf nearF (keepO L R S N o j) with
    | none => rw [bestOf_none.1 hb] at e2; cases e2
    | some q =>
      simp only
      have hm := List.mem_filter.1 (bestOf_mem hb)
      refine ⟨hm.1, ?_⟩
      rw [← hm.2]
      exact holdsB_congr L R N fun x y hxy => by rw [hsr.good L R S N (by omega) (by omega) hxy, hs.good L R S N (by omega) (by omega) hxy]
  · cases h
theorem prove_chart {r : List Int} (h : steer_Plan_chart.f L R S N = some r) : steer_Prove.f L R S N r = some 0 := by
  have hr := (chart_says h).1
  obtain ⟨m, hs, _, hv⟩ := chart_best h
  unfold steer_Prove.f
  rw [if_pos hr, if_pos hs.1, if_pos ?_]
  rw [List.all_eq_true]
  intro j hj
  rw [List.mem_range] at hj
  unfold meantOK
  by_cases hlt : rd r j < 1000
  · obtain ⟨h1, h2⟩ := hv j hj hlt
    rw [h2, List.contains_iff_mem.2 h1]; simp
  · simp [hlt]
/-- A law that is proved is meant for safe states alone. -/
theorem meant_safe {l : List Int} (hL0 : 1 ≤ L) (hR0 : 0 ≤ R) (hN : 0 ≤ N) (hp : (List.range (siz L R)).all (meantOK L R S N l) = true) : ∀ (n : Nat) (j : Nat), j < siz L R → rd l j < 1000 → T L R S N n (stE L R j) (stR R j) = true
  | 0, j, hj, _ => isB_iff.2 (st_bounds L R hL0 hR0 j hj)
  | n + 1, j, hj, hlt => by
    refine (T_succ_iff hN).2 ⟨meant_safe hL0 hR0 hN hp n j hj hlt, rd l j, ?_⟩
    have h1 := List.all_eq_true.1 hp j (List.mem_range.2 hj)
    unfold meantOK at h1
    rw [decide_eq_true hlt, Bool.not_true, Bool.false_or, Bool.and_eq_true] at h1
    refine ⟨mem_rates.1 (List.contains_iff_mem.1 h1.1), fun d hd1 hd2 => ?_⟩
    obtain ⟨h2, h3⟩ := (holdsB_iff hN).1 h1.2 d hd1 hd2
    obtain ⟨i, hi, he, hy, hx⟩ := st_of hL0 hR0 h2
    unfold goodO at h3
    rw [hx] at h3
    have := meant_safe hL0 hR0 hN hp n i hi (of_decide_eq_true h3)
    rwa [he, hy] at this
theorem prove_len {l : List Int} {v : Int} (hr : rightB L R S N = true) (h : steer_Prove.f L R S N l = some v) : v = 0 → l.length = siz L R ∧ (List.range (siz L R)).all (meantOK L R S N l) = true := by
  unfold steer_Prove.f at h
  rw [if_pos hr] at h
  rintro rfl
  split at h
  · rename_i hl
    refine ⟨hl, ?_⟩
    by_cases ha : (List.range (siz L R)).all (meantOK L R S N l) = true
    · exact ha
    · rw [if_neg ha] at h; cases h
  · cases h
theorem prove_some (hr : rightB L R S N = true) (l : List Int) : ∃ v, steer_Prove.f L R S N l = some v := by
  unfold steer_Prove.f
  rw [if_pos hr]
  split <;> exact ⟨_, rfl⟩
end
end Go.Proofs.Ytcaekmalkbaldaa.M
