/- 'Force': the program and the reference answer the same, in plain Lean. -/
import Derived.Test.YtcaekmalkbaldaaFb
namespace Go.Proofs.Ytcaekmalkbaldaa.M
open Go.RowKit Go.Shelf Go.Proofs.YtcaekmalkbaldaaW.PrintWords Go.Proofs.YtcaekmalkbaldaaW.PrintLast Go.Proofs.YtcaekmalkbaldaaW.PrintMore
set_option linter.unusedVariables false
set_option linter.unusedSimpArgs false
section
variable {L R S N : Int}
theorem rforce_l0 {ch : List Int} {m : Nat} (hB : Best L R S N ch m) (hm : m ≤ 1500) (hp : rightB L R S N = true) (rs : List Int) (hrs : rs.length ≤ 100000) :
    ∀ (n i k : Nat) (e r : Int) (out : List Int) (lv : Nat), i + n = rs.length → n + 100 < k → out.length + n ≤ 100000 → isB L R e r = true → 1 ≤ lv → lv ≤ m → T L R S N lv e r = false → T L R S N (lv - 1) e r = true →
      meridianref06_Force.l0 k e r rs ch out (i : Int) L R S N = some (forceL L R S N ch (rs.drop i) e r out)
  | 0, i, k, e, r, out, lv, hi, hk, ho, hb, h1, h2, h3, h4 => by
    obtain ⟨k, rfl⟩ : ∃ j, k = j + 1 := ⟨k - 1, by omega⟩
    unfold meridianref06_Force.l0
    rw [if_neg (by omega), List.drop_of_length_le (by omega)]
    rfl
  | n + 1, i, k, e, r, out, lv, hi, hk, ho, hb, h1, h2, h3, h4 => by
    obtain ⟨k, rfl⟩ : ∃ j, k = j + 1 := ⟨k - 1, by omega⟩
    have h' := rightB_iff.1 hp
    have hbd := isB_iff.1 hb
    have hil : i < rs.length := by omega
    have hrd : rd rs (i : Int) = rs[i] := by simp [rd, List.getD_eq_getElem?_getD, hil]
    have hdr : rs.drop i = rs[i] :: rs.drop (i + 1) := List.drop_eq_getElem_cons hil
    unfold meridianref06_Force.l0
    rw [if_pos (by omega), if_pos (by omega), hrd, hdr]
    generalize rs[i] = q
    rw [ref_allowed_f (by omega) (by omega) (by omega) (by omega) r q (by omega) (by omega), Option.bind_some]
    unfold forceL
    by_cases hq : (ratesL R S r).contains q = true
    · rw [if_pos hq, if_pos hq]
      have hqm : -R ≤ q ∧ q ≤ R ∧ q ≤ r + S ∧ r - S ≤ q := mem_rates.1 (by simpa using hq)
      obtain ⟨z, hz, ⟨d, hd1, hd2, hzd⟩, hnext⟩ := force_step hB hm (by omega) (by omega) (by omega) h1 h2 h3 h4 hqm
      have hzl : isB L R z.f0 z.f1 = false ∨ T L R S N m z.f0 z.f1 = false := by
        rcases hnext with h | ⟨k', _, _, _, g, _⟩
        · exact .inl h
        · refine .inr ?_
          cases hc : T L R S N m z.f0 z.f1 with
          | false => rfl
          | true => rw [T_all hB.fix hc k'] at g; cases g
      rw [answer_f hB hm hp (by omega) (by omega) hz hzl k (by omega), Option.bind_some, if_pos (by omega), Option.bind_some, hz]
      simp only [Option.getD_some]
      have e1 : wrap64 (wrap64 (e + q) + (z.f0 - e - q)) = z.f0 := by
        rw [hzd, wrap_small (e + q) (by omega) (by omega), wrap_small _ (by simp only; omega) (by simp only; omega)]
        simp only; omega
      have e2 : z.f1 = q := by rw [hzd]
      rw [e1, ref_is_f (by omega) (by omega) (by omega) (by omega), Option.bind_some]
      rw [e2] at hnext ⊢
      by_cases hzb : isB L R z.f0 q = true
      · rw [if_pos hzb, if_pos hzb, wrap_small _ (by omega) (by omega), show ((i : Int) + 1) = ((i + 1 : Nat) : Int) by omega]
        rcases hnext with h | ⟨k', g1, g2, _, g3, g4⟩
        · rw [h] at hzb; cases hzb
        · exact rforce_l0 hB hm hp rs hrs n (i + 1) k z.f0 q _ k' (by omega) (by omega) (by simp; omega) hzb g1 (by omega) g3 g4
      · rw [if_neg hzb, if_neg hzb]
    · rw [if_neg hq, if_neg hq]
theorem small_siz (hp : rightB L R S N = true) (hbig : (decide (rightB L R S N = true) && decide (600 < (2 * L + 1) * (2 * R + 1))) = false) : siz L R ≤ 600 := by
  have h' := rightB_iff.1 hp
  rw [hp] at hbig
  have := siz_int (L := L) (R := R) (by omega) (by omega)
  have h2 : ¬ 600 < (2 * L + 1) * (2 * R + 1) := by simpa using hbig
  omega
/-- 'Force' of the reference, where there is such a state. -/
theorem rforce_f {ch : List Int} {m : Nat} (hB : Best L R S N ch m) (hm : m ≤ 1500) (hp : rightB L R S N = true) (hch : steer_Plan_chart.f L R S N = some ch) {e r : Int} (hb : isB L R e r = true) {j : Nat} (hj : j < ch.length) (hji : ix L R e r = j) (hi : meridianref06_Index.f L R S N e r = some (ix L R e r, 0)) (rs : List Int) (hrs : rs.length ≤ 100000) :
    ∃ K, ∀ k, K ≤ k → meridianref06_Force.f k L R S N e r rs = some (if rd ch (j : Int) < 1000 then ([], 9) else forceL L R S N ch rs e r []) := by
  have h' := rightB_iff.1 hp
  obtain ⟨K1, hK1⟩ := ref_chart_f hp hch
  refine ⟨K1 + rs.length + 200, fun k hk => ?_⟩
  unfold meridianref06_Force.f
  rw [hi, Option.bind_some]
  simp only
  rw [if_pos trivial, hK1 k (by omega), Option.bind_some, hji]
  simp only
  rw [if_pos (by omega), if_pos (by omega)]
  by_cases hlt : rd ch (j : Int) < 1000
  · rw [if_pos hlt, if_pos hlt]
  · rw [if_neg hlt, if_neg hlt]
    obtain ⟨j2, hj2, hi2, hs1, hs2⟩ := hB.says.at (show 1 ≤ L by omega) (show 0 ≤ R by omega) hb
    obtain rfl : j2 = j := by have : (j2 : Int) = j := hi2.symm.trans hji; omega
    have ht : T L R S N m e r = false := by
      cases hc : T L R S N m e r with
      | false => rfl
      | true => exact absurd (hs1 hc) hlt
    obtain ⟨lv, g1, g2, _, _, g3, g4⟩ := esc_lost hB hm (by omega) (by omega) (z := ⟨e, r⟩) hb ht
    have := rforce_l0 hB hm hp rs hrs rs.length 0 k e r [] lv (by omega) (by omega) (by simp; omega) hb g1 g2 g3 g4
    simpa using this
end
end Go.Proofs.Ytcaekmalkbaldaa.M
