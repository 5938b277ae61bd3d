/- What the chart of the steering chapter says of a safe state's rate, and what driving by it gives, in plain Lean. -/
import Derived.Test.YtcaekmalkbaldaaPm
namespace Go.Proofs.Ytcaekmalkbaldaa.M
open Go.RowKit Go.Shelf Go.Proofs.YtcaekmalkbaldaaW.PrintWords Go.Proofs.YtcaekmalkbaldaaW.PrintLast Go.Proofs.YtcaekmalkbaldaaW.PrintMore
set_option linter.unusedVariables false
set_option linter.unusedSimpArgs false
section
variable {L R S N : Int}
theorem chartF_fin (hL0 : 1 ≤ L) (hR0 : 0 ≤ R) (hR : R ≤ 12) : ∀ (f n : Nat) (o r : List Int), Says L R S N n o → chartF L R S N f ((n : Int) + 1) o = some r →
    ∃ m o', m ≤ n + f ∧ Says L R S N m o' ∧ Says L R S N m r ∧ (∀ e y, T L R S N m e y = true → T L R S N (m + 1) e y = true) ∧ ∀ j : Nat, j < siz L R → rd r j = roundV L R S N o' j ∧ lostB L R S N o' j = false
  | 0, _, _, _, _, h => by simp [chartF] at h
  | f + 1, n, o, r, hs, h => by
    obtain ⟨h1, h2, h3⟩ := fold_spec L R S N hL0 hR0 hR o hs.1 (siz L R) (Nat.le_refl _)
    unfold chartF at h
    generalize (List.range (siz L R)).foldl (stepC L R S N) (o, []) = st at h1 h2 h3 h
    have hv : ∀ j : Nat, j < siz L R → rd st.1 j = roundV L R S N o j := fun j hj => by rw [h2 j hj, if_pos hj]
    have hmem : ∀ j : Nat, j < siz L R → (j ∈ st.2 ↔ (T L R S N n (stE L R j) (stR R j) && !T L R S N (n + 1) (stE L R j) (stR R j)) = true) := fun j hj => by
      rw [h3, List.mem_filter, lostB_iff hL0 hR0 hs hj, List.mem_range]
      exact ⟨fun h => h.2, fun h => ⟨hj, h⟩⟩
    have hold : ∀ j : Nat, j < siz L R → ∀ m : Int, 0 ≤ m → rd o j = 1000 + m → rd st.1 j = 1000 + m := fun j hj m hm e => by
      rw [hv j hj]; unfold roundV; rw [if_neg (by omega), e]
    by_cases hc : st.2 = []
    · rw [if_pos hc] at h
      obtain rfl := Option.some.inj h
      refine ⟨n, o, by omega, hs, ⟨h1, fun j hj => ⟨fun ht => ?_, fun ht => ?_⟩⟩, fun e y ht => ?_, fun j hj => ⟨hv j hj, ?_⟩⟩
      · rw [hv j hj]
        exact (roundV_lt L R S N hR o j).2 ((hs.2 j hj).1 ht)
      · obtain ⟨m, hm1, hm2, hm3, hm4⟩ := (hs.2 j hj).2 ht
        exact ⟨m, hm1, hm2, hold j hj m (by omega) hm3, hm4⟩
      · obtain ⟨j, hj, he, hy, _⟩ := st_of hL0 hR0 (T_bound n ht)
        have := hmem j hj
        rw [hc, he, hy, ht] at this
        cases h5 : T L R S N (n + 1) e y
        · rw [h5] at this; exact absurd (this.2 rfl) (by simp)
        · rfl
      · have : j ∉ (List.range (siz L R)).filter (lostB L R S N o) := by rw [← h3, hc]; simp
        rw [List.mem_filter, List.mem_range] at this
        cases hl : lostB L R S N o j
        · rfl
        · exact absurd ⟨hj, hl⟩ this
    · rw [if_neg hc] at h
      have hlen : ∀ i ∈ st.2, i < st.1.length := fun i hi => by
        rw [h3, List.mem_filter, List.mem_range] at hi
        rw [h1]; exact hi.1
      have hs1 : Says L R S N (n + 1) (markC ((n : Int) + 1) st.1 st.2) := by
        refine ⟨by rw [markC_len, h1], fun j hj => ⟨fun ht => ?_, fun ht => ?_⟩⟩
        · have h4 := T_le ht (Nat.le_succ n)
          rw [markC_rd _ _ _ _ hlen, if_neg (fun hm => by rw [hmem j hj, h4, ht] at hm; simp at hm), hv j hj]
          exact (roundV_lt L R S N hR o j).2 ((hs.2 j hj).1 h4)
        · rw [markC_rd _ _ _ _ hlen]
          cases h4 : T L R S N n (stE L R j) (stR R j)
          · obtain ⟨m, hm1, hm2, hm3, hm4⟩ := (hs.2 j hj).2 h4
            refine ⟨m, by omega, hm2, ?_, hm4⟩
            rw [if_neg (fun hm => by rw [hmem j hj, h4] at hm; simp at hm)]
            exact hold j hj m (by omega) hm3
          · refine ⟨n + 1, Nat.le_refl _, by omega, ?_, ht, h4⟩
            rw [if_pos ((hmem j hj).2 (by rw [h4, ht]; rfl))]
            omega
      obtain ⟨m', o', hle, hrest⟩ := chartF_fin hL0 hR0 hR f (n + 1) (markC ((n : Int) + 1) st.1 st.2) r hs1 (by rw [show (((n + 1 : Nat) : Int) + 1) = (n : Int) + 1 + 1 by omega]; exact h)
      exact ⟨m', o', by omega, hrest⟩

/-- The chart: what it says, and that a safe state's rate is one that holds. -/
theorem chart_best {r : List Int} (h : steer_Plan_chart.f L R S N = some r) : ∃ m, m ≤ siz L R + 2 ∧ Says L R S N m r ∧ (∀ e y, T L R S N m e y = true → T L R S N (m + 1) e y = true) ∧
    ∀ j : Nat, j < siz L R → rd r j < 1000 → rd r j ∈ ratesL R S (stR R j) ∧ holdsB L R N (stE L R j) (rd r j) (goodO L R r) = true := by
  unfold steer_Plan_chart.f at h
  split at h
  · rename_i hr
    have h' := rightB_iff.1 hr
    have hs0 : Says L R S N 0 (List.replicate (siz L R) 0) := by
      refine ⟨List.length_replicate, fun j hj => ⟨fun _ => ?_, fun ht => ?_⟩⟩
      · rw [rd_nat, List.getD_eq_getElem?_getD, List.getElem?_replicate, if_pos hj]; decide
      · have h1 := st_bounds L R (by omega) (by omega) j hj
        rw [show T L R S N 0 (stE L R j) (stR R j) = true from isB_iff.2 h1] at ht
        cases ht
    obtain ⟨m, o, hml, hs, hsr, hst, hv⟩ := chartF_fin (by omega) (by omega) (by omega) _ 0 _ r hs0 h
    refine ⟨m, by omega, hsr, hst, fun j hj hlt => ?_⟩
    obtain ⟨e1, e2⟩ := hv j hj
    rw [e1] at hlt ⊢
    have hlo := (roundV_lt L R S N (by omega) o j).1 hlt
    unfold roundV at hlt ⊢
    rw [if_pos hlo] at hlt ⊢
    unfold lostB at e2
    rw [decide_eq_true hlo, Bool.true_and] at e2
    cases hb : bestOf nearF (keepO L R S N o j) with
    | none => rw [bestOf_none.1 hb] at e2; cases e2
    | some q =>
      simp only
      have hm := List.mem_filter.1 (bestOf_mem hb)
      refine ⟨hm.1, ?_⟩
      rw [← hm.2]
      exact holdsB_congr L R N fun x y hxy => by rw [hsr.good L R S N (by omega) (by omega) hxy, hs.good L R S N (by omega) (by omega) hxy]
  · cases h

/-- The index of a state. -/
abbrev ix (L R x y : Int) : Int := (x + L) * (2 * R + 1) + y + R
/-- A chart, as the program makes it. -/
structure Best (L R S N : Int) (ch : List Int) (m : Nat) : Prop where
  small : m ≤ siz L R + 2
  says : Says L R S N m ch
  fix : ∀ e y, T L R S N m e y = true → T L R S N (m + 1) e y = true
  best : ∀ j : Nat, j < siz L R → rd ch j < 1000 → rd ch j ∈ ratesL R S (stR R j) ∧ holdsB L R N (stE L R j) (rd ch j) (goodO L R ch) = true
theorem best_of {r : List Int} (h : steer_Plan_chart.f L R S N = some r) : ∃ m, Best L R S N r m := by
  obtain ⟨m, h0, h1, h2, h3⟩ := chart_best h
  exact ⟨m, h0, h1, h2, h3⟩
theorem Best.safe {ch : List Int} {m : Nat} (hB : Best L R S N ch m) (hL0 : 1 ≤ L) (hR0 : 0 ≤ R) (hN0 : 0 ≤ N) {x y : Int} (ht : T L R S N m x y = true) :
    ∃ j : Nat, j < ch.length ∧ ix L R x y = j ∧ rd ch j < 1000 ∧ (-R ≤ rd ch j ∧ rd ch j ≤ R ∧ rd ch j ≤ y + S ∧ y - S ≤ rd ch j) ∧ ∀ d, -N ≤ d → d ≤ N → T L R S N m (x + rd ch j + d) (rd ch j) = true := by
  obtain ⟨j, hj, he, hy, hi⟩ := st_of hL0 hR0 (T_bound m ht)
  have h1 := (hB.says.2 j hj).1
  rw [he, hy] at h1
  have h2 := h1 ht
  obtain ⟨h3, h4⟩ := hB.best j hj h2
  rw [hy] at h3
  rw [he] at h4
  refine ⟨j, by rw [hB.says.1]; exact hj, hi, h2, mem_rates.1 h3, fun d hd1 hd2 => ?_⟩
  obtain ⟨h5, h6⟩ := (holdsB_iff hN0).1 h4 d hd1 hd2
  rw [← hB.says.good L R S N hL0 hR0 h5]
  exact h6
/-- Driving by the chart. -/
def holdS (L R : Int) (ch : List Int) : List Int → Int → Int → List S59
  | [], _, _ => []
  | d :: ds, x, y => ⟨x + rd ch (ix L R x y) + d, rd ch (ix L R x y)⟩ :: holdS L R ch ds (x + rd ch (ix L R x y) + d) (rd ch (ix L R x y))
theorem holdS_len (L R : Int) (ch : List Int) : ∀ (l : List Int) (x y : Int), (holdS L R ch l x y).length = l.length
  | [], _, _ => rfl
  | d :: ds, x, y => by simp [holdS, holdS_len L R ch ds]
theorem pindex_f (hr : rightB L R S N = true) {x y : Int} (hb : isB L R x y = true) : steer_Plan_index.f L R S N x y = some (ix L R x y) := by
  have h := rightB_iff.1 hr
  have h2 := isB_iff.1 hb
  unfold steer_Plan_index.f ix
  have h3 := idx_bound (by omega) (by omega) (by omega) (by omega) hb
  have e1 : wrap64 (x + L) = x + L := wrap_small _ (by omega) (by omega)
  have e2 : wrap64 (wrap64 (2 * R) + 1) = 2 * R + 1 := by rw [wrap_small (2 * R) (by omega) (by omega), wrap_small _ (by omega) (by omega)]
  rw [e1, e2]
  generalize (x + L) * (2 * R + 1) = z at h3 ⊢
  rw [wrap_small z (by omega) (by omega), wrap_small (z + y) (by omega) (by omega), wrap_small (z + y + R) (by omega) (by omega)]
theorem hold_l0 {ch : List Int} {m : Nat} (hr : rightB L R S N = true) (hB : Best L R S N ch m) (l : List Int) (hl : l.length ≤ 5000) (hd : ∀ d ∈ l, -N ≤ d ∧ d ≤ N) :
    ∀ (n i k : Nat) (x y : Int) (out : List S59), i + n = l.length → n < k → out.length + n ≤ 5000 → T L R S N m x y = true →
      steer_Hold.l0 k ch out l (l.length : Int) (i : Int) L R S N x y = some (out ++ holdS L R ch (l.drop i) x y, 0)
  | 0, i, k, x, y, out, hi, hk, ho, ht => by
    obtain ⟨k, rfl⟩ : ∃ j, k = j + 1 := ⟨k - 1, by omega⟩
    unfold steer_Hold.l0
    rw [if_neg (by omega), List.drop_of_length_le (by omega)]
    simp [holdS]
  | n + 1, i, k, x, y, out, hi, hk, ho, ht => by
    obtain ⟨k, rfl⟩ : ∃ j, k = j + 1 := ⟨k - 1, by omega⟩
    have h' := rightB_iff.1 hr
    have hb := isB_iff.1 (T_bound m ht)
    obtain ⟨j, hj, hij, hlt, hq, hst⟩ := hB.safe (by omega) (by omega) (by omega) ht
    have hil : i < l.length := by omega
    have hrd : rd l (i : Int) = l[i] := by simp [rd, List.getD_eq_getElem?_getD, hil]
    have hdi := hd _ (List.getElem_mem hil)
    have hdr : l.drop i = l[i] :: l.drop (i + 1) := List.drop_eq_getElem_cons hil
    unfold steer_Hold.l0
    rw [if_pos (by omega), if_pos (by omega), if_pos (by omega), pindex_f hr (T_bound m ht), Option.bind_some, hij, if_pos (by omega), if_pos (by omega), if_pos (by omega), hrd, hdr]
    simp only [holdS, hij]
    have h9 := hst l[i] hdi.1 hdi.2
    generalize l[i] = d at *
    generalize rd ch (j : Int) = q at *
    rw [wrap_small (x + q) (by omega) (by omega), wrap_small (x + q + d) (by omega) (by omega), wrap_small ((i : Int) + 1) (by omega) (by omega)]
    have ih := hold_l0 hr hB l hl hd n (i + 1) k (x + q + d) q (out ++ [⟨x + q + d, q⟩]) (by omega) (by omega) (by simp; omega) h9
    rw [show ((i : Int) + 1) = ((i + 1 : Nat) : Int) by omega, ih]
    simp
end
end Go.Proofs.Ytcaekmalkbaldaa.M
