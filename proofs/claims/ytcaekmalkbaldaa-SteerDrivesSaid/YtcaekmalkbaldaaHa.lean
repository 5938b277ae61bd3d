/- Driving the chart of the steering chapter with disturbances: the program and the reference answer the same, in plain Lean. -/
import Derived.Test.YtcaekmalkbaldaaCb
import Derived.Test.YtcaekmalkbaldaaRc
import Derived.Test.YtcaekmalkbaldaaM17
namespace Go.Proofs.Ytcaekmalkbaldaa.M
open Go.RowKit Go.Shelf Go.Proofs.YtcaekmalkbaldaaW.PrintWords Go.Proofs.YtcaekmalkbaldaaW.PrintLast Go.Proofs.YtcaekmalkbaldaaW.PrintMore
set_option linter.unusedVariables false
set_option linter.unusedSimpArgs false
section
variable {L R S N : Int}
/-- Both programs' states. -/
def cv (x : S59) : S84 := ⟨x.f0, x.f1⟩
theorem index_cases (L R S N e r : Int) : (rightB L R S N = true ∧ isB L R e r = true ∧ steer_Index.f L R S N e r = some (ix L R e r, 0) ∧ meridianref06_Index.f L R S N e r = some (ix L R e r, 0)) ∨
    ∃ x, x ≠ 0 ∧ steer_Index.f L R S N e r = some (0, x) ∧ meridianref06_Index.f L R S N e r = some (0, x) := by
  by_cases hp : rightB L R S N = true
  · have h' := rightB_iff.1 hp
    by_cases hb : isB L R e r = true
    · refine .inl ⟨hp, hb, index_f hp hb, ?_⟩
      unfold meridianref06_Index.f
      rw [refcheck_f, if_pos hp, Option.bind_some, if_pos rfl, ref_is_f (by omega) (by omega) (by omega) (by omega), hb, Option.bind_some, if_pos rfl, ref_index_f (by omega) (by omega) (by omega) (by omega) hb]
      rfl
    · have hb' : isB L R e r = false := by simpa using hb
      refine .inr ⟨6, by decide, ?_, ?_⟩
      · unfold steer_Index.f
        rw [check_f, if_pos hp, Option.bind_some, if_pos rfl, is_f (by omega) (by omega) (by omega) (by omega), hb', Option.bind_some, if_neg (by simp)]
      · unfold meridianref06_Index.f
        rw [refcheck_f, if_pos hp, Option.bind_some, if_pos rfl, ref_is_f (by omega) (by omega) (by omega) (by omega), hb', Option.bind_some, if_neg (by simp)]
  · refine .inr ⟨60, by decide, ?_, ?_⟩
    · unfold steer_Index.f
      rw [check_f, if_neg hp, Option.bind_some, if_neg (by decide)]
    · unfold meridianref06_Index.f
      rw [refcheck_f, if_neg hp, Option.bind_some, if_neg (by decide)]
theorem rh_l1 {ch : List Int} {m : Nat} (hr : rightB L R S N = true) (hB : Best L R S N ch m) (l : List Int) (hl : l.length ≤ 5000) (hd : ∀ d ∈ l, -N ≤ d ∧ d ≤ N) :
    ∀ (n i k : Nat) (x y : Int) (out : List S59), i + n = l.length → n < k → out.length + n ≤ 5000 → T L R S N m x y = true →
      meridianref06_Hold.l1 k x y l ch (out.map cv) (i : Int) L R S N = some ((out ++ holdS L R ch (l.drop i) x y).map cv, 0)
  | 0, i, k, x, y, out, hi, hk, ho, ht => by
    obtain ⟨k, rfl⟩ : ∃ j, k = j + 1 := ⟨k - 1, by omega⟩
    unfold meridianref06_Hold.l1
    rw [if_neg (by omega), List.drop_of_length_le (by omega)]
    simp [holdS]
  | n + 1, i, k, x, y, out, hi, hk, ho, ht => by
    obtain ⟨k, rfl⟩ : ∃ j, k = j + 1 := ⟨k - 1, by omega⟩
    have h' := rightB_iff.1 hr
    have hb := isB_iff.1 (T_bound m ht)
    obtain ⟨j, hj, hij, hlt, hq, hst⟩ := hB.safe (by omega) (by omega) (by omega) ht
    have hil : i < l.length := by omega
    have hrd : rd l (i : Int) = l[i] := by simp [rd, List.getD_eq_getElem?_getD, hil]
    have hdi := hd _ (List.getElem_mem hil)
    have hdr : l.drop i = l[i] :: l.drop (i + 1) := List.drop_eq_getElem_cons hil
    unfold meridianref06_Hold.l1
    rw [if_pos (by omega), ref_index_f (by omega) (by omega) (by omega) (by omega) (T_bound m ht), Option.bind_some, show (x + L) * (2 * R + 1) + y + R = (j : Int) from hij, if_pos (by omega), if_pos (by omega), if_pos (by omega), if_pos (by rw [List.length_map]; omega), hrd, hdr]
    simp only [holdS, hij]
    have h9 := hst l[i] hdi.1 hdi.2
    generalize l[i] = d at *
    generalize rd ch (j : Int) = q at *
    rw [wrap_small (x + q) (by omega) (by omega), wrap_small (x + q + d) (by omega) (by omega), wrap_small ((i : Int) + 1) (by omega) (by omega)]
    have ih := rh_l1 hr hB l hl hd n (i + 1) k (x + q + d) q (out ++ [⟨x + q + d, q⟩]) (by omega) (by omega) (by simp; omega) h9
    rw [List.map_append] at ih
    rw [show ((i : Int) + 1) = ((i + 1 : Nat) : Int) by omega]
    refine ih.trans ?_
    simp
theorem rh_l0 (l : List Int) (hl : l.length ≤ 5000) (hN0 : 0 ≤ N) (hN : N ≤ 12) (e r : Int) : ∀ (n i k : Nat), i + n = l.length → (∀ d ∈ l.drop i, -N ≤ d ∧ d ≤ N) →
      meridianref06_Hold.l0 (k + n) e r l (i : Int) L R S N = meridianref06_Hold.l0 k e r l (l.length : Int) L R S N
  | 0, i, k, hi, hd => by rw [show (i : Int) = (l.length : Int) by omega, Nat.add_zero]
  | n + 1, i, k, hi, hd => by
    have hil : i < l.length := by omega
    have hrd : rd l (i : Int) = l[i] := by simp [rd, List.getD_eq_getElem?_getD, hil]
    have hdr : l.drop i = l[i] :: l.drop (i + 1) := List.drop_eq_getElem_cons hil
    rw [hdr] at hd
    have h1 := hd _ (List.mem_cons_self)
    rw [show k + (n + 1) = (k + n) + 1 by omega, meridianref06_Hold.l0]
    rw [if_pos (by omega), if_pos (by omega), hrd, wrap_small (-N) (by omega) (by omega), if_neg (by omega), if_neg (by omega), wrap_small ((i : Int) + 1) (by omega) (by omega), show ((i : Int) + 1) = ((i + 1 : Nat) : Int) by omega]
    exact rh_l0 l hl hN0 hN e r n (i + 1) k (by omega) (fun d hdm => hd d (List.mem_cons_of_mem _ hdm))
theorem rh_bad (l : List Int) (hl : l.length ≤ 5000) (hN0 : 0 ≤ N) (hN : N ≤ 12) (e r : Int) : ∀ (n i k : Nat), i + n = l.length → n < k → (∃ d ∈ l.drop i, ¬ (-N ≤ d ∧ d ≤ N)) →
      meridianref06_Hold.l0 k e r l (i : Int) L R S N = some ([], 6)
  | 0, i, k, hi, hk, hd => by rw [List.drop_of_length_le (by omega)] at hd; simp at hd
  | n + 1, i, k, hi, hk, hd => by
    obtain ⟨k, rfl⟩ : ∃ j, k = j + 1 := ⟨k - 1, by omega⟩
    have hil : i < l.length := by omega
    have hrd : rd l (i : Int) = l[i] := by simp [rd, List.getD_eq_getElem?_getD, hil]
    have hdr : l.drop i = l[i] :: l.drop (i + 1) := List.drop_eq_getElem_cons hil
    rw [hdr] at hd
    rw [meridianref06_Hold.l0, if_pos (by omega), if_pos (by omega), hrd, wrap_small (-N) (by omega) (by omega)]
    by_cases h1 : l[i] < -N
    · rw [if_pos h1]
    · rw [if_neg h1]
      by_cases h2 : l[i] > N
      · rw [if_pos h2]
      · rw [if_neg h2, wrap_small ((i : Int) + 1) (by omega) (by omega), show ((i : Int) + 1) = ((i + 1 : Nat) : Int) by omega]
        refine rh_bad l hl hN0 hN e r n (i + 1) k (by omega) (by omega) ?_
        obtain ⟨d, hm, hn⟩ := hd
        rcases List.mem_cons.1 hm with rfl | hm
        · exact absurd (And.intro (by omega) (by omega)) hn
        · exact ⟨d, hm, hn⟩
/-- 'Hold': both answer the same. -/
theorem hold_both (L R S N e r : Int) (l : List Int) (hl : l.length ≤ 5000) : ∃ (a : List S59) (f : Int) (K : Nat), a.length ≤ l.length ∧ ∀ k, K ≤ k → steer_Hold.f k L R S N e r l = some (a, f) ∧ meridianref06_Hold.f k L R S N e r l = some (a.map cv, f) := by
  rcases index_cases L R S N e r with ⟨hp, hb, h1, h2⟩ | ⟨x, hx, h1, h2⟩
  · have h' := rightB_iff.1 hp
    have hw : wrap64 (-N) = -N := wrap_small _ (by omega) (by omega)
    obtain ⟨ch, hch⟩ := chart_some hp
    obtain ⟨m, hB⟩ := best_of hch
    obtain ⟨K1, hK1⟩ := ref_chart_f hp hch
    by_cases hd : ∀ d ∈ l, -N ≤ d ∧ d ≤ N
    · have hany : (l.any fun d => !(decide (wrap64 (-N) ≤ d) && decide (d ≤ N))) = false := by
        rw [List.any_eq_false]
        intro d hdm
        have := hd d hdm
        rw [hw]
        simp [this]
      obtain ⟨j, hj, hjl, hji⟩ : ∃ j : Nat, j < ch.length ∧ ix L R e r = j ∧ True := by
        obtain ⟨j, hj, hi⟩ := idx_lt (show 1 ≤ L by omega) (show 0 ≤ R by omega) hb
        exact ⟨j, by rw [hB.says.1]; exact hj, hi, trivial⟩
      have hs := hB.says.at (show 1 ≤ L by omega) (show 0 ≤ R by omega) hb
      obtain ⟨j2, hj2, hi2, hs1, hs2⟩ := hs
      have hjj : j2 = j := by have : (j2 : Int) = j := hi2.symm.trans hjl; omega
      subst hjj
      have e1 : ∀ k, steer_Hold.f k L R S N e r l = if rd ch (j2 : Int) ≥ 1000 then some ([], 9) else steer_Hold.l0 k ch [] l (l.length : Int) 0 L R S N e r := fun k => by
        unfold steer_Hold.f
        rw [h1, Option.bind_some]
        simp only
        rw [if_pos trivial, if_neg (by omega)]
        unfold slices_ContainsFunc_int_int__steer_Hold_1.f
        rw [hany, Option.bind_some, if_neg (by simp), hch, Option.bind_some, pindex_f hp hb, Option.bind_some, hjl, if_pos (by omega), if_pos (by omega)]
      have e2 : ∀ k, K1 ≤ k → meridianref06_Hold.f (k + 1 + l.length) L R S N e r l = if rd ch (j2 : Int) ≥ 1000 then some ([], 9) else meridianref06_Hold.l1 k e r l ch [] 0 L R S N := fun k hk => by
        unfold meridianref06_Hold.f
        rw [h2, Option.bind_some]
        simp only
        rw [if_pos trivial, if_neg (by omega), show (0 : Int) = ((0 : Nat) : Int) from rfl, rh_l0 l hl (by omega) (by omega) e r l.length 0 (k + 1) (by omega) (by simpa using hd), meridianref06_Hold.l0, if_neg (by omega), hK1 k hk, Option.bind_some, ref_index_f (by omega) (by omega) (by omega) (by omega) hb, Option.bind_some, show (e + L) * (2 * R + 1) + r + R = (j2 : Int) from hi2, if_pos (by omega), if_pos (show (j2 : Int) < (((ch, (0 : Int)).1 : List Int).length : Int) from by show (j2 : Int) < (ch.length : Int); omega)]
        rfl
      by_cases hge : rd ch (j2 : Int) ≥ 1000
      · refine ⟨[], 9, K1 + 1 + l.length, by simp, fun k hk => ⟨by rw [e1, if_pos hge], ?_⟩⟩
        have := e2 (k - 1 - l.length) (by omega)
        rw [show k - 1 - l.length + 1 + l.length = k by omega, if_pos hge] at this
        exact this
      · have ht : T L R S N m e r = true := by
          cases ht : T L R S N m e r with
          | true => rfl
          | false => obtain ⟨k, hk1, hk2, _⟩ := hs2 ht; omega
        refine ⟨holdS L R ch l e r, 0, K1 + 2 * l.length + 5, by rw [holdS_len]; omega, fun k hk => ⟨?_, ?_⟩⟩
        · rw [e1, if_neg hge]
          have := hold_l0 hp hB l hl hd l.length 0 k e r [] (by omega) (by omega) (by simp; omega) ht
          simpa using this
        · have := e2 (k - 1 - l.length) (by omega)
          rw [show k - 1 - l.length + 1 + l.length = k by omega, if_neg hge] at this
          rw [this]
          have := rh_l1 hp hB l hl hd l.length 0 (k - 1 - l.length) e r [] (by omega) (by omega) (by simp; omega) ht
          simpa using this
    · have hbad : ∃ d ∈ l, ¬ (-N ≤ d ∧ d ≤ N) := by
        refine Classical.byContradiction fun hn => hd fun d hdm => Classical.byContradiction fun hq => hn ⟨d, hdm, hq⟩
      have hany : (l.any fun d => !(decide (wrap64 (-N) ≤ d) && decide (d ≤ N))) = true := by
        rw [List.any_eq_true]
        obtain ⟨d, hdm, hn⟩ := hbad
        refine ⟨d, hdm, ?_⟩
        rw [hw]
        simp only [Bool.not_eq_true', Bool.and_eq_false_iff, decide_eq_false_iff_not]
        omega
      refine ⟨[], 6, l.length + 1, by simp, fun k hk => ⟨?_, ?_⟩⟩
      · unfold steer_Hold.f
        rw [h1, Option.bind_some]
        simp only
        rw [if_pos trivial, if_neg (by omega)]
        unfold slices_ContainsFunc_int_int__steer_Hold_1.f
        rw [hany, Option.bind_some, if_pos rfl]
      · unfold meridianref06_Hold.f
        rw [h2, Option.bind_some]
        simp only
        rw [if_pos trivial, if_neg (by omega), show (0 : Int) = ((0 : Nat) : Int) from rfl, rh_bad l hl (by omega) (by omega) e r l.length 0 k (by omega) (by omega) (by simpa using hbad)]
        rfl
  · refine ⟨[], x, 0, by simp, fun k _ => ⟨?_, ?_⟩⟩
    · unfold steer_Hold.f
      rw [h1, Option.bind_some]
      simp only
      rw [if_neg hx]
    · unfold meridianref06_Hold.f
      rw [h2, Option.bind_some]
      simp only
      rw [if_neg hx]
      rfl
theorem entries_l0 (a : List S59) (ha : a.length ≤ 100000) : ∀ (n i k : Nat), i + n = a.length → n < k → meridianlaw06_entries.l0 k a (a.map cv) (i : Int) = some true
  | 0, i, k, hi, hk => by
    obtain ⟨k, rfl⟩ : ∃ j, k = j + 1 := ⟨k - 1, by omega⟩
    unfold meridianlaw06_entries.l0
    rw [if_neg (by omega)]
  | n + 1, i, k, hi, hk => by
    obtain ⟨k, rfl⟩ : ∃ j, k = j + 1 := ⟨k - 1, by omega⟩
    have hil : i < a.length := by omega
    have h1 : rd_T59 a (i : Int) = a[i] := by simp [rd_T59, List.getD_eq_getElem?_getD, hil]
    have h2 : rd_T84 (a.map cv) (i : Int) = cv a[i] := by simp [rd_T84, List.getD_eq_getElem?_getD, hil]
    unfold meridianlaw06_entries.l0
    rw [if_pos (by omega), if_pos (by omega), if_pos (by rw [List.length_map]; omega), h1, h2, if_neg (by simp [cv]), wrap_small _ (by omega) (by omega), show ((i : Int) + 1) = ((i + 1 : Nat) : Int) by omega]
    exact entries_l0 a ha n (i + 1) k (by omega) (by omega)
theorem entries_f (a : List S59) (ha : a.length ≤ 100000) (k : Nat) (hk : a.length < k) : meridianlaw06_entries.f k a (a.map cv) = some true := by
  unfold meridianlaw06_entries.f
  rw [if_pos (by simp)]
  exact entries_l0 a ha a.length 0 k (by omega) hk
end
end Go.Proofs.Ytcaekmalkbaldaa.M
