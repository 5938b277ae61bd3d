/- Seconds and dates are inverse to each other, and keep the order; the ends of the months: plain Lean. -/
import Derived.Test.YtleipbanadnchaaDp
namespace Go.Proofs.Ytleipbanadnchaa.C
set_option linter.unusedVariables false
/-- Lists compared, the first number first. -/
def cmpF : List Int → List Int → Int
  | [], [] => 0
  | [], _ :: _ => -1
  | _ :: _, [] => 1
  | x :: l, y :: m => if x < y then -1 else if y < x then 1 else cmpF l m
theorem clock_sum {n : Int} (h0 : 0 ≤ n) (h1 : n ≤ 86400) : n = 3600 * ckH n + 60 * ckM n + ckS n ∧ 0 ≤ ckH n ∧ ckH n ≤ 23 ∧ 0 ≤ ckM n ∧ ckM n ≤ 59 ∧ 0 ≤ ckS n ∧ ckS n ≤ 60 ∧ (ckS n = 60 → n = 86400) := by
  unfold ckH ckM ckS
  by_cases h : 86400 ≤ n
  · rw [if_pos h, if_pos h, if_pos h]; omega
  · rw [if_neg h, if_neg h, if_neg h]; omega
theorem dayN_lt {y m d y' m' d' : Int} (h : okD y m d = true) (h' : okD y' m' d' = true) (hl : y < y' ∨ (y = y' ∧ (m < m' ∨ (m = m' ∧ d < d')))) : dayN y m d < dayN y' m' d' := by
  have a := okD_iff.1 h
  have a' := okD_iff.1 h'
  have c : IsCiv (dayN y m d) y m d := ⟨by omega, by omega, by omega, by omega, by omega, rfl⟩
  have c' : IsCiv (dayN y' m' d') y' m' d' := ⟨by omega, by omega, by omega, by omega, by omega, rfl⟩
  rcases hl with hy | ⟨rfl, hm | ⟨rfl, hd⟩⟩
  · have := c.in_year; have := c'.in_year
    have := ny_mono (y := y + 1) (z := y') (by omega); omega
  · have e1 := cum_mono y (j := m.toNat) (k := (m' - 1).toNat) (by omega)
    have e2 := cum_pred (y := y) c.m0
    unfold dayN; omega
  · unfold dayN; omega
/-- The date of a second of a table, as a list. -/
def dateL (l : List (Int × Int)) (s D : Int) : List Int := [cY D, cM D, cD D, ckH (s - beginF l D), ckM (s - beginF l D), ckS (s - beginF l D)]
theorem IsDay.clock {l : List (Int × Int)} {u s D : Int} (hR : Right u l) (h : IsDay l u s D) : 0 ≤ s - beginF l D ∧ s - beginF l D < 86400 + stepF l D ∧ s - beginF l D ≤ 86400 := by
  have h1 := hR.next D
  have := h.lo; have := h.hi
  omega
theorem IsDay.ok {l : List (Int × Int)} {u s D : Int} (hu : u ≤ 88069) (h : IsDay l u s D) : okD (cY D) (cM D) (cD D) = true ∧ dayN (cY D) (cM D) (cD D) = D := by
  have c := civ_is h.d0 (by have := h.d1; omega)
  exact ⟨okD_iff.2 ⟨c.y0, c.y2 (by have := h.d1; omega), c.m0, c.m1, c.d0, c.d1⟩, c.eq⟩
/-- 'Seconds' of a second's date is the second. -/
theorem seconds_of_date {b u s D : Int} {l : List (Int × Int)} (hk : checkF b l u = 0) (h : IsDay l u s D) :
    secondsR b l u (cY D) (cM D) (cD D) (ckH (s - beginF l D)) (ckM (s - beginF l D)) (ckS (s - beginF l D)) = (s, 0) := by
  obtain ⟨_, _, _, h4, _, hR⟩ := checkF_right hk
  obtain ⟨h1, h2⟩ := h.ok h4
  have h3 := h.clock hR
  have hs := clock_sum h3.1 h3.2.2
  unfold secondsR
  rw [if_pos hk, if_pos]
  · rw [h2]
    have : 3600 * ckH (s - beginF l D) + 60 * ckM (s - beginF l D) + ckS (s - beginF l D) = s - beginF l D := hs.1.symm
    rw [this]
    exact Prod.ext (by show beginF l D + (s - beginF l D) = s; omega) rfl
  · unfold secOk
    rw [h1, h2, Bool.true_and, decide_eq_true_iff]
    have := h.d1
    omega
/-- The order of seconds is that of their dates. -/
theorem order_of_dates {u s t D E : Int} {l : List (Int × Int)} (hu : u ≤ 88069) (hR : Right u l) (h : IsDay l u s D) (h' : IsDay l u t E) : decide (cmpF (dateL l s D) (dateL l t E) < 0) = decide (s < t) := by
  obtain ⟨a1, a2⟩ := h.ok hu
  obtain ⟨b1, b2⟩ := h'.ok hu
  have hs := h.clock hR
  have ht := h'.clock hR
  have hs1 := clock_sum hs.1 hs.2.2
  have ht1 := clock_sum ht.1 ht.2.2
  unfold dateL
  refine decide_eq_decide.2 ?_
  rcases Int.lt_trichotomy D E with c | c | c
  · have hlt : s < t := by
      have := hR.mono (d := D + 1) (e := E) (by omega)
      have := h.hi; have := h'.lo; omega
    have hlex : cY D < cY E ∨ (cY D = cY E ∧ (cM D < cM E ∨ (cM D = cM E ∧ cD D < cD E))) := by
      refine Decidable.byContradiction fun hn => ?_
      by_cases e : cY D = cY E ∧ cM D = cM E ∧ cD D = cD E
      · rw [e.1, e.2.1, e.2.2] at a2; omega
      · have := dayN_lt b1 a1 (by omega)
        omega
    simp only [cmpF]
    constructor
    · exact fun _ => hlt
    · intro _
      by_cases c1 : cY D < cY E
      · rw [if_pos c1]; decide
      · rw [if_neg c1, if_neg (by omega)]
        by_cases c2 : cM D < cM E
        · rw [if_pos c2]; decide
        · rw [if_neg c2, if_neg (by omega), if_pos (by omega)]; decide
  · subst c
    simp only [cmpF]
    rw [if_neg (by omega), if_neg (by omega), if_neg (by omega), if_neg (by omega), if_neg (by omega), if_neg (by omega)]
    generalize ckH (s - beginF l D) = H at *
    generalize ckM (s - beginF l D) = I at *
    generalize ckS (s - beginF l D) = S at *
    generalize ckH (t - beginF l D) = H' at *
    generalize ckM (t - beginF l D) = I' at *
    generalize ckS (t - beginF l D) = S' at *
    split
    · constructor
      · intro _; omega
      · intro _; decide
    · split
      · constructor
        · intro hh; exact absurd hh (by decide)
        · intro _; omega
      · split
        · constructor
          · intro _; omega
          · intro _; decide
        · split
          · constructor
            · intro hh; exact absurd hh (by decide)
            · intro _; omega
          · split
            · constructor
              · intro _; omega
              · intro _; decide
            · split
              · constructor
                · intro hh; exact absurd hh (by decide)
                · intro _; omega
              · constructor
                · intro hh; exact absurd hh (by decide)
                · intro _; omega
  · have hlt : ¬ s < t := by
      have := hR.mono (d := E + 1) (e := D) (by omega)
      have := h'.hi; have := h.lo; omega
    have hlex : cY E < cY D ∨ (cY E = cY D ∧ (cM E < cM D ∨ (cM E = cM D ∧ cD E < cD D))) := by
      refine Decidable.byContradiction fun hn => ?_
      by_cases e : cY D = cY E ∧ cM D = cM E ∧ cD D = cD E
      · rw [e.1, e.2.1, e.2.2] at a2; omega
      · have := dayN_lt a1 b1 (by omega)
        omega
    simp only [cmpF]
    constructor
    · intro hh
      exfalso
      by_cases c1 : cY E < cY D
      · rw [if_neg (by omega), if_pos c1] at hh; exact absurd hh (by decide)
      · rw [if_neg (by omega), if_neg c1] at hh
        by_cases c2 : cM E < cM D
        · rw [if_neg (by omega), if_pos c2] at hh; exact absurd hh (by decide)
        · rw [if_neg (by omega), if_neg c2, if_neg (by omega), if_pos (by omega)] at hh; exact absurd hh (by decide)
    · intro hh; exact absurd hh hlt
/-- The last second's day is the last; its hour is 23, its minute 59. -/
theorem last_day {b u : Int} {l : List (Int × Int)} (hk : checkF b l u = 0) : 1 ≤ beginF l u ∧ IsDay l u (beginF l u - 1) (u - 1) ∧ ckH (beginF l u - 1 - beginF l (u - 1)) = 23 ∧ ckM (beginF l u - 1 - beginF l (u - 1)) = 59 := by
  obtain ⟨_, _, h3, h4, _, hR⟩ := checkF_right hk
  have h5 := hR.next (u - 1)
  rw [show u - 1 + 1 = u by omega] at h5
  have h6 := hR.mono (d := 41317) (e := u - 1) (by omega)
  rw [hR.first] at h6
  have hn : beginF l u - 1 - beginF l (u - 1) = 86399 + stepF l (u - 1) := by omega
  refine ⟨by omega, ⟨by omega, by omega, by omega, by rw [show u - 1 + 1 = u by omega]; omega⟩, ?_, ?_⟩
  · rw [hn]; unfold ckH; split <;> omega
  · rw [hn]; unfold ckM; split <;> omega
/-- The last day of month n, counted from January 1972 on. -/
def endN (n : Int) : Int := dayN (1972 + n / 12) (n % 12 + 1) (mlen (1972 + n / 12) (n % 12 + 1))
theorem endN_next {n : Int} (h : 0 ≤ n) : dayN (1972 + (n + 1) / 12) ((n + 1) % 12 + 1) 1 - 1 = endN n := by
  unfold endN
  by_cases h11 : n % 12 = 11
  · rw [show (n + 1) % 12 + 1 = 1 by omega, show 1972 + (n + 1) / 12 = 1972 + n / 12 + 1 by omega, h11]
    unfold dayN
    rw [ny_next]
    have : cum (1972 + n / 12) 12 = cum (1972 + n / 12) ((11 : Int) + 1 - 1).toNat + mlen (1972 + n / 12) (11 + 1) := rfl
    have e : cum (1972 + n / 12 + 1) ((1 : Int) - 1).toNat = 0 := rfl
    rw [e]; omega
  · rw [show (n + 1) % 12 + 1 = n % 12 + 1 + 1 by omega, show (n + 1) / 12 = n / 12 by omega]
    unfold dayN
    have := cum_pred (y := 1972 + n / 12) (m := n % 12 + 1) (by omega)
    rw [show (n % 12 + 1 + 1 - 1).toNat = (n % 12 + 1).toNat by omega]
    omega
theorem endN_civ {n : Int} (h : 0 ≤ n) : IsCiv (endN n) (1972 + n / 12) (n % 12 + 1) (mlen (1972 + n / 12) (n % 12 + 1)) := by
  have := mlen_bound (1972 + n / 12) (n % 12 + 1)
  exact ⟨by omega, by omega, by omega, by omega, by omega, rfl⟩
theorem endN_lt {n k : Int} (h : 0 ≤ n) (hk : n < k) : endN n < endN k := by
  have a := endN_civ h
  have b := endN_civ (n := k) (by omega)
  by_cases hy : n / 12 < k / 12
  · have := a.in_year; have := b.in_year
    have := ny_mono (y := 1972 + n / 12 + 1) (z := 1972 + k / 12) (by omega); omega
  · have e : n / 12 = k / 12 := by omega
    have e1 := cum_mono (1972 + n / 12) (j := (n % 12 + 1).toNat) (k := (k % 12 + 1 - 1).toNat) (by omega)
    have e2 := cum_pred (y := 1972 + n / 12) a.m0
    have := mlen_bound (1972 + k / 12) (k % 12 + 1)
    unfold endN dayN
    rw [← e] at *
    omega
theorem endN_me {n : Int} (h : 0 ≤ n) (h1 : n / 12 ≤ 127) : 41317 ≤ endN n ∧ endN n ≤ 88068 ∧ meF (endN n) = true := by
  have a := endN_civ h
  have b := a.in_year
  have h2 := ny_mono (y := 1972) (z := 1972 + n / 12) (by omega)
  have h3 := ny_mono (y := 1972 + n / 12 + 1) (z := 2100) (by omega)
  have e1 : ny 1972 = 41316 := by decide
  have e2 : ny 2100 = 88068 := by decide
  have hb : 41317 ≤ endN n ∧ endN n ≤ 88068 := by omega
  have c := (civ_is hb.1 (by omega)).unique a
  refine ⟨hb.1, hb.2, ?_⟩
  unfold meF
  rw [← c.1, ← c.2.1, ← c.2.2]
  simp
end Go.Proofs.Ytleipbanadnchaa.C
