/- What SteerSafe asks, in plain Lean: from a safe state the chart keeps the limit; from a lost one 'Force' leads out in time. -/
import Derived.Test.YtcaekmalkbaldaaFa
namespace Go.Proofs.Ytcaekmalkbaldaa.M
open Go.RowKit Go.Shelf Go.Proofs.YtcaekmalkbaldaaW.PrintWords Go.Proofs.YtcaekmalkbaldaaW.PrintLast Go.Proofs.YtcaekmalkbaldaaW.PrintMore
set_option linter.unusedVariables false
set_option linter.unusedSimpArgs false
section
variable {L R S N : Int}
/-- Each rate is allowed behind the one before. -/
def Allowed (R S : Int) : List Int → Int → Prop
  | [], _ => True
  | q :: qs, r => (-R ≤ q ∧ q ≤ R ∧ q ≤ r + S ∧ r - S ≤ q) ∧ Allowed R S qs q
/-- What answers the rates leads out of the limit at its end, and not before. -/
def Run (L N : Int) : List Int → List Int → Int → Prop
  | [], _, e => e < -L ∨ L < e
  | d :: ds, q :: qs, e => (-L ≤ e ∧ e ≤ L) ∧ (-N ≤ d ∧ d ≤ N) ∧ Run L N ds qs (e + q + d)
  | _ :: _, [], _ => False
theorem Allowed.snoc {R S : Int} : ∀ (l : List Int) (r q : Int), Allowed R S l r → (-R ≤ q ∧ q ≤ R ∧ q ≤ (l.getLast?.getD r) + S ∧ (l.getLast?.getD r) - S ≤ q) → Allowed R S (l ++ [q]) r
  | [], r, q, _, h => ⟨by simpa using h, trivial⟩
  | a :: l, r, q, h1, h => by
    refine ⟨h1.1, Allowed.snoc l a q h1.2 ?_⟩
    cases l with
    | nil => simpa using h
    | cons b l =>
      have hx : (b :: l).getLast? = some ((b :: l).getLast (by simp)) := List.getLast?_eq_some_getLast _
      rw [List.getLast?_cons_cons, hx] at h
      rw [hx]
      exact h
theorem force_run {ch : List Int} {m : Nat} (hB : Best L R S N ch m) (hm : m ≤ 1500) (hL0 : 1 ≤ L) (hR0 : 0 ≤ R) (hN0 : 0 ≤ N) : ∀ (rs : List Int) (e r : Int) (out : List Int) (lv : Nat), Allowed R S rs r → isB L R e r = true → 1 ≤ lv → lv ≤ m → lv ≤ rs.length → T L R S N lv e r = false → T L R S N (lv - 1) e r = true →
    ∃ ds, forceL L R S N ch rs e r out = (out ++ ds, 0) ∧ 1 ≤ ds.length ∧ ds.length ≤ rs.length ∧ Run L N ds rs e
  | [], e, r, out, lv, ha, hb, h1, h2, h3, h4, h5 => by simp at h3; omega
  | q :: rs, e, r, out, lv, ha, hb, h1, h2, h3, h4, h5 => by
    obtain ⟨z, hz, ⟨d, hd1, hd2, hzd⟩, hnext⟩ := force_step hB hm hL0 hR0 hN0 h1 h2 h4 h5 ha.1
    have hbe := isB_iff.1 hb
    have hcon : (ratesL R S r).contains q = true := by
      have : q ∈ ratesL R S r := mem_rates.2 ha.1
      simpa using this
    unfold forceL
    rw [if_pos hcon, hz]
    simp only [Option.getD_some]
    have hdd : z.f0 - e - q = d := by rw [hzd]; simp only; omega
    have hf0 : z.f0 = e + q + d := by rw [hzd]
    have hf1 : z.f1 = q := by rw [hzd]
    rw [hdd]
    rw [hf1] at hnext ⊢
    by_cases hzb : isB L R z.f0 q = true
    · rw [if_pos hzb]
      rcases hnext with h | ⟨k', g1, g2, _, g3, g4⟩
      · rw [h] at hzb; cases hzb
      · obtain ⟨ds, e1, e2, e3, e4⟩ := force_run hB hm hL0 hR0 hN0 rs z.f0 q (out ++ [d]) k' ha.2 hzb g1 (by omega) (by simp at h3; omega) g3 g4
        refine ⟨d :: ds, by rw [e1]; simp, by simp, by simp; omega, ⟨⟨hbe.1, hbe.2.1⟩, ⟨hd1, hd2⟩, ?_⟩⟩
        rw [← hf0]; exact e4
    · rw [if_neg hzb]
      refine ⟨[d], rfl, by simp, by simp, ⟨⟨hbe.1, hbe.2.1⟩, ⟨hd1, hd2⟩, ?_⟩⟩
      rw [← hf0]
      show z.f0 < -L ∨ L < z.f0
      rw [isB_iff] at hzb
      have := ha.1
      omega
/-- 'Hold' from a safe state. -/
theorem hold_safe {ch : List Int} {m : Nat} (hp : rightB L R S N = true) (hch : steer_Plan_chart.f L R S N = some ch) (hB : Best L R S N ch m) {e r : Int} (ht : T L R S N m e r = true) (l : List Int) (hl : l.length ≤ 5000) (hd : ∀ d ∈ l, -N ≤ d ∧ d ≤ N) :
    steer_Hold.f (l.length + 1) L R S N e r l = some (holdS L R ch l e r, 0) := by
  have h' := rightB_iff.1 hp
  have hb := T_bound m ht
  have hany : (l.any fun d => !(decide (wrap64 (-N) ≤ d) && decide (d ≤ N))) = false := by
    rw [List.any_eq_false]
    intro d hdm
    have := hd d hdm
    rw [wrap_small (-N) (by omega) (by omega)]
    simp [this]
  obtain ⟨j, hj, hij, hlt, _, _⟩ := hB.safe (by omega) (by omega) (by omega) ht
  unfold steer_Hold.f
  rw [index_f hp hb, Option.bind_some]
  simp only
  rw [if_pos trivial, if_neg (by omega)]
  unfold slices_ContainsFunc_int_int__steer_Hold_1.f
  rw [hany, Option.bind_some, if_neg (by simp), hch, Option.bind_some, pindex_f hp hb, Option.bind_some, hij, if_pos (by omega), if_pos (by omega), if_neg (by omega)]
  have := hold_l0 hp hB l hl hd l.length 0 (l.length + 1) e r [] (by omega) (by omega) (by simp; omega) ht
  simpa using this
/-- 'Hold' from a lost state. -/
theorem hold_lost {ch : List Int} {m : Nat} (hp : rightB L R S N = true) (hch : steer_Plan_chart.f L R S N = some ch) (hB : Best L R S N ch m) {e r : Int} (hb : isB L R e r = true) {j : Nat} (hj : j < ch.length) (hij : ix L R e r = j) (hge : ¬ rd ch (j : Int) < 1000) :
    steer_Hold.f 1 L R S N e r [] = some ([], 9) := by
  unfold steer_Hold.f
  rw [index_f hp hb, Option.bind_some]
  simp only
  rw [if_pos trivial, if_neg (by simp)]
  unfold slices_ContainsFunc_int_int__steer_Hold_1.f
  rw [show ([] : List Int).any (fun d => !(decide (wrap64 (-N) ≤ d) && decide (d ≤ N))) = false from rfl, Option.bind_some, if_neg (by simp), hch, Option.bind_some, pindex_f hp hb, Option.bind_some, hij, if_pos (by omega), if_pos (by omega), if_pos (by omega)]
theorem small_siz2 (hp : rightB L R S N = true) (hbig : (decide (rightB L R S N = true) && decide (600 < (2 * L + 1) * (2 * R + 1))) = false) : siz L R ≤ 600 := by
  have h' := rightB_iff.1 hp
  rw [hp] at hbig
  have := siz_int (L := L) (R := R) (by omega) (by omega)
  have h2 : ¬ 600 < (2 * L + 1) * (2 * R + 1) := by simpa using hbig
  omega
theorem pick_g (n m : Int) (h1 : 1 ≤ m) (h2 : m ≤ 100000) : ∃ c, meridiankit_Pick.f n m = some c ∧ 0 ≤ c ∧ c < m := by
  unfold meridiankit_Pick.f
  rw [if_neg (by omega), if_neg (by omega)]
  have h3 : Int.tmod n m < m := Int.tmod_lt_of_pos n (by omega)
  have h4 : -m < Int.tmod n m := by
    have := Int.tmod_lt_of_pos (-n) (show (0 : Int) < m by omega)
    rw [Int.neg_tmod] at this
    omega
  by_cases h : Int.tmod n m < 0
  · rw [if_pos h, wrap_small _ (by omega) (by omega)]
    exact ⟨_, rfl, by omega, by omega⟩
  · rw [if_neg h]
    exact ⟨_, rfl, by omega, by omega⟩
end
end Go.Proofs.Ytcaekmalkbaldaa.M
