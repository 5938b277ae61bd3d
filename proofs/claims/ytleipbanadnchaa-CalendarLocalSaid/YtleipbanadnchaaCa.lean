/- The calendar, in plain Lean: the numbers of days, and the day of a number. -/
namespace Go.Proofs.Ytleipbanadnchaa.C
/-- The days of a month. -/
def mlen (y m : Int) : Int := if m = 2 then (if y % 4 = 0 then 29 else 28) else if m = 4 ∨ m = 6 ∨ m = 9 ∨ m = 11 then 30 else 31
/-- The day before a year. -/
def ny (y : Int) : Int := 41316 + 365 * (y - 1972) + (y - 1972 + 3) / 4
/-- The days of the first k months. -/
def cum (y : Int) : Nat → Int
  | 0 => 0
  | k + 1 => cum y k + mlen y ((k : Int) + 1)
/-- There is such a day. -/
def okD (y m d : Int) : Bool := decide (1972 ≤ y ∧ y ≤ 2099 ∧ 1 ≤ m ∧ m ≤ 12 ∧ 1 ≤ d ∧ d ≤ mlen y m)
/-- The number of a day. -/
def dayN (y m d : Int) : Int := ny y + cum y (m - 1).toNat + d
theorem okD_iff {y m d : Int} : okD y m d = true ↔ 1972 ≤ y ∧ y ≤ 2099 ∧ 1 ≤ m ∧ m ≤ 12 ∧ 1 ≤ d ∧ d ≤ mlen y m := decide_eq_true_iff
theorem mlen_bound (y m : Int) : 28 ≤ mlen y m ∧ mlen y m ≤ 31 := by unfold mlen; split <;> split <;> omega
theorem cum_mono (y : Int) {j k : Nat} (h : j ≤ k) : cum y j ≤ cum y k := by
  induction h with
  | refl => exact Int.le_refl _
  | @step m _ ih => have h1 := mlen_bound y ((m : Int) + 1); have h2 : cum y (m + 1) = cum y m + mlen y ((m : Int) + 1) := rfl; show cum y j ≤ cum y (m + 1); omega
theorem cum_bound (y : Int) : ∀ k : Nat, 0 ≤ cum y k ∧ cum y k ≤ 31 * k
  | 0 => ⟨Int.le_refl _, Int.le_refl _⟩
  | k + 1 => by have := cum_bound y k; have := mlen_bound y ((k : Int) + 1); unfold cum; omega
theorem cum_12 (y : Int) : cum y 12 = if y % 4 = 0 then 366 else 365 := by
  unfold cum cum cum cum cum cum cum cum cum cum cum cum cum mlen
  simp
  split <;> rfl
theorem ny_next (y : Int) : ny (y + 1) = ny y + cum y 12 := by
  rw [cum_12]; unfold ny; split <;> omega
theorem ny_mono {y z : Int} (h : y ≤ z) : ny y ≤ ny z := by unfold ny; omega
theorem ny_lt {y z : Int} (h : y < z) : ny y + 365 ≤ ny z := by unfold ny; omega
/-- A day's year, month and day of the month. -/
structure IsCiv (n y m d : Int) : Prop where
  y0 : 1972 ≤ y
  m0 : 1 ≤ m
  m1 : m ≤ 12
  d0 : 1 ≤ d
  d1 : d ≤ mlen y m
  eq : dayN y m d = n
theorem cum_pred {y m : Int} (h0 : 1 ≤ m) : cum y m.toNat = cum y (m - 1).toNat + mlen y m := by
  obtain ⟨k, rfl⟩ : ∃ k : Nat, m = k + 1 := ⟨(m - 1).toNat, by omega⟩
  rw [show ((k : Int) + 1).toNat = k + 1 by omega, show ((k : Int) + 1 - 1).toNat = k by omega]
  rfl
theorem IsCiv.in_year {n y m d : Int} (h : IsCiv n y m d) : ny y < n ∧ n ≤ ny (y + 1) ∧ n = ny y + cum y (m - 1).toNat + d := by
  have e := h.eq
  unfold dayN at e
  have h1 := (cum_bound y (m - 1).toNat).1
  have h2 := cum_pred (y := y) h.m0
  have h3 := cum_mono y (j := m.toNat) (k := 12) (by have := h.m1; omega)
  rw [ny_next]
  have := h.d0; have := h.d1
  omega
theorem year_unique {n y z : Int} (h1 : ny y < n) (h2 : n ≤ ny (y + 1)) (h3 : ny z < n) (h4 : n ≤ ny (z + 1)) : y = z := by
  rcases Int.lt_trichotomy y z with h | h | h
  · have := ny_mono (y := y + 1) (z := z) (by omega); omega
  · exact h
  · have := ny_mono (y := z + 1) (z := y) (by omega); omega
theorem IsCiv.unique {n y m d y' m' d' : Int} (h : IsCiv n y m d) (h' : IsCiv n y' m' d') : y' = y ∧ m' = m ∧ d' = d := by
  obtain ⟨a1, a2, a3⟩ := h.in_year
  obtain ⟨b1, b2, b3⟩ := h'.in_year
  obtain rfl := year_unique b1 b2 a1 a2
  have hm : m' = m := by
    rcases Int.lt_trichotomy m' m with c | c | c
    · have e1 := cum_mono y' (j := m'.toNat) (k := (m - 1).toNat) (by omega)
      have e2 := cum_pred (y := y') h'.m0
      have := h'.d1; have := h.d0; omega
    · exact c
    · have e1 := cum_mono y' (j := m.toNat) (k := (m' - 1).toNat) (by omega)
      have e2 := cum_pred (y := y') h.m0
      have := h.d1; have := h'.d0; omega
  subst hm
  exact ⟨rfl, rfl, by omega⟩
theorem IsCiv.y1 {n y m d : Int} (h : IsCiv n y m d) (hn : n ≤ 88071) : y ≤ 2100 := by
  have := h.in_year.1
  rcases Int.lt_or_le 2100 y with c | c
  · have := ny_mono (y := 2101) (z := y) (by omega); unfold ny at *; omega
  · exact c
theorem IsCiv.y2 {n y m d : Int} (h : IsCiv n y m d) (hn : n ≤ 88068) : y ≤ 2099 := by
  have := h.in_year.1
  rcases Int.lt_or_le 2099 y with c | c
  · have := ny_mono (y := 2100) (z := y) (by omega); unfold ny at *; omega
  · exact c
theorem find_month (y : Int) : ∀ (k : Nat) (r : Int), 1 ≤ r → r ≤ cum y k → ∃ m : Nat, m < k ∧ cum y m < r ∧ r ≤ cum y (m + 1)
  | 0, r, h0, h1 => by unfold cum at h1; omega
  | k + 1, r, h0, h1 => by
    rcases Int.lt_or_le (cum y k) r with c | c
    · exact ⟨k, by omega, c, h1⟩
    · obtain ⟨m, h2, h3⟩ := find_month y k r h0 c
      exact ⟨m, by omega, h3⟩
theorem year_of {n : Int} (h : 41317 ≤ n) : ∃ y, 1972 ≤ y ∧ ny y < n ∧ n ≤ ny (y + 1) := by
  have h1 : ∃ k : Nat, n ≤ ny (1972 + k + 1) := ⟨(n - 41316).toNat, by unfold ny; omega⟩
  obtain ⟨k, hk⟩ := h1
  induction k with
  | zero => exact ⟨1972, by omega, by unfold ny; omega, by simpa using hk⟩
  | succ k ih =>
    rcases Int.lt_or_le (ny (1972 + (k : Int) + 1)) n with c | c
    · exact ⟨1972 + k + 1, by omega, c, by rw [show (1972 : Int) + k + 1 + 1 = 1972 + ((k + 1 : Nat) : Int) + 1 by omega]; exact hk⟩
    · exact ih c
theorem IsCiv.exists {n : Int} (h : 41317 ≤ n) : ∃ y m d, IsCiv n y m d := by
  obtain ⟨y, h0, h1, h2⟩ := year_of h
  obtain ⟨m, h3, h4, h5⟩ := find_month y 12 (n - ny y) (by omega) (by rw [ny_next] at h2; omega)
  refine ⟨y, m + 1, n - ny y - cum y m, h0, by omega, by omega, by omega, ?_, ?_⟩
  · unfold cum at h5; omega
  · unfold dayN; rw [show ((m : Int) + 1 - 1).toNat = m by omega]; omega
/-- The weekday of a day. -/
def wdF (n : Int) : Int := (n - 41317 + 5) % 7 + 1
/-- The Thursday of a day's week. -/
def thuF (n : Int) : Int := n + 4 - wdF n
/-- The first Monday of a year's weeks. -/
def monF (y : Int) : Int := ny y + 4 - wdF (ny y + 4) + 1
theorem mon_le (n y : Int) : monF y ≤ n ↔ ny y < thuF n := by
  unfold monF thuF wdF
  generalize ny y = a
  omega
theorem week_eq (n y : Int) : (n - wdF n + 1 - monF y) / 7 + 1 = (thuF n - ny y - 1) / 7 + 1 := by
  unfold monF thuF wdF at *
  generalize ny y = a at *
  omega
theorem thu_bound (n : Int) : n - 3 ≤ thuF n ∧ thuF n ≤ n + 3 := by unfold thuF wdF; omega
theorem ref_wd (n : Int) : (if (n - 41317 + 6) % 7 = 0 then 7 else (n - 41317 + 6) % 7) = wdF n := by unfold wdF; split <;> omega
end Go.Proofs.Ytleipbanadnchaa.C
namespace Go.Proofs.Ytleipbanadnchaa.C
/-- The year of a day. -/
def civY (n : Int) : Int := if ny (1972 + (n - 41317) / 366 + 1) < n then 1972 + (n - 41317) / 366 + 1 else 1972 + (n - 41317) / 366
/-- The month and the day of the month: the months are gone through. -/
def civM (y : Int) : Nat → Int → Int → Int × Int
  | 0, m, r => (m, r)
  | k + 1, m, r => if r ≤ mlen y m then (m, r) else civM y k (m + 1) (r - mlen y m)
def cY (n : Int) : Int := civY n
def cM (n : Int) : Int := (civM (civY n) 12 1 (n - ny (civY n))).1
def cD (n : Int) : Int := (civM (civY n) 12 1 (n - ny (civY n))).2
theorem civY_in {n : Int} (h0 : 41317 ≤ n) (h1 : n ≤ 88071) : 1972 ≤ civY n ∧ ny (civY n) < n ∧ n ≤ ny (civY n + 1) := by
  unfold civY ny
  split <;> omega
theorem civM_eq (y m : Int) (r : Int) (hm1 : m ≤ 12) (h0 : cum y (m - 1).toNat < r) (h1 : r ≤ cum y m.toNat) :
    ∀ (g j : Nat), (j : Int) + g + 1 = m → civM y (12 - j) (j + 1) (r - cum y j) = (m, r - cum y (m - 1).toNat)
  | 0, j, e => by
    obtain ⟨k, hk⟩ : ∃ k, 12 - j = k + 1 := ⟨11 - j, by omega⟩
    have e1 : m.toNat = j + 1 := by omega
    have e2 : (m - 1).toNat = j := by omega
    rw [e1] at h1; rw [e2] at h0 ⊢
    rw [hk]; unfold civM
    unfold cum at h1
    rw [if_pos (by omega)]
    rw [show (j : Int) + 1 = m by omega]
  | g + 1, j, e => by
    obtain ⟨k, hk⟩ : ∃ k, 12 - j = k + 1 := ⟨11 - j, by omega⟩
    have ih := civM_eq y m r hm1 h0 h1 g (j + 1) (by omega)
    have h2 := cum_mono y (j := j + 1) (k := (m - 1).toNat) (by omega)
    have h3 : cum y (j + 1) = cum y j + mlen y ((j : Int) + 1) := rfl
    rw [hk]; unfold civM
    rw [if_neg (by omega), show r - cum y j - mlen y ((j : Int) + 1) = r - cum y (j + 1) by omega, ← ih, show 12 - (j + 1) = k by omega]
    rfl
theorem civ_is {n : Int} (h0 : 41317 ≤ n) (h1 : n ≤ 88071) : IsCiv n (cY n) (cM n) (cD n) := by
  obtain ⟨y, m, d, h⟩ := IsCiv.exists h0
  obtain ⟨a0, a1, a2⟩ := civY_in h0 h1
  obtain ⟨b1, b2, b3⟩ := h.in_year
  obtain rfl := year_unique a1 a2 b1 b2
  have c2 := cum_pred (y := civY n) h.m0
  have := h.d0; have := h.d1; have hm0 := h.m0
  have := civM_eq (civY n) m (n - ny (civY n)) h.m1 (by omega) (by omega) (m - 1).toNat 0 (by omega)
  have e : cum (civY n) 0 = 0 := rfl
  rw [e] at this
  simp at this
  unfold cY cM cD
  rw [this]
  rw [show n - ny (civY n) - cum (civY n) (m.toNat - 1) = d by rw [show m.toNat - 1 = (m - 1).toNat by omega]; omega]
  exact h
end Go.Proofs.Ytleipbanadnchaa.C
