/- Tables of leaps, in plain Lean. -/
import Derived.Test.YtleipbanadnchaaCa
namespace Go.Proofs.Ytleipbanadnchaa.C
theorem thu_last {n : Int} (h0 : 41317 ≤ n) (h1 : n ≤ 88068) : thuF n ≤ 88068 ∧ 41314 ≤ thuF n := by unfold thuF wdF; omega
/-- The year of a day's week; its number. -/
def wkY (n : Int) : Int := if thuF n < 41317 then 1971 else cY (thuF n)
def wkN (n : Int) : Int := if thuF n < 41317 then 52 else (thuF n - ny (cY (thuF n)) - 1) / 7 + 1
theorem ny_neg {y z : Int} (h : ny y < ny z) : y < z := by
  rcases Int.lt_or_le y z with c | c
  · exact c
  · have := ny_mono c; omega
/-- Going down from the year behind the day's own, the first year that has begun is the week's. -/
theorem wk_start {n : Int} (h0 : 41317 ≤ n) (h1 : n ≤ 88068) (h2 : 41317 ≤ thuF n) : wkY n ≤ cY n + 1 ∧ 1972 ≤ wkY n ∧ wkY n ≤ 2099 ∧ ny (wkY n) < thuF n ∧ thuF n ≤ ny (wkY n + 1) := by
  have a := civ_is h0 (by omega)
  have b := civ_is h2 (by have := thu_last h0 h1; omega)
  have a1 := a.in_year; have b1 := b.in_year
  have c := thu_bound n
  have e : wkY n = cY (thuF n) := by unfold wkY; rw [if_neg (by omega)]
  rw [e]
  refine ⟨?_, b.y0, b.y2 (by have := thu_last h0 h1; omega), b1.1, b1.2.1⟩
  have h5 : ny (cY (thuF n)) < ny (cY n + 1 + 1) := by have := ny_lt (y := cY n + 1) (z := cY n + 1 + 1) (by omega); omega
  have := ny_neg h5
  omega
theorem wk_above {n y : Int} (h0 : 41317 ≤ n) (h1 : n ≤ 88068) (h2 : 41317 ≤ thuF n) (h : wkY n < y) : ¬ monF y ≤ n := by
  rw [mon_le]
  have a := wk_start h0 h1 h2
  have := ny_mono (y := wkY n + 1) (z := y) (by omega)
  omega
theorem wk_at {n : Int} (h0 : 41317 ≤ n) (h1 : n ≤ 88068) (h2 : 41317 ≤ thuF n) : monF (wkY n) ≤ n ∧ (n - wdF n + 1 - monF (wkY n)) / 7 + 1 = wkN n := by
  have a := wk_start h0 h1 h2
  refine ⟨(mon_le _ _).2 a.2.2.2.1, ?_⟩
  rw [week_eq]
  have e : wkY n = cY (thuF n) := by unfold wkY; rw [if_neg (by omega)]
  unfold wkN; rw [if_neg (by omega), e]
theorem wk_none {n y : Int} (h2 : thuF n < 41317) (h : 1972 ≤ y) : ¬ monF y ≤ n := by
  rw [mon_le]
  have := ny_mono h
  have : ny 1972 = 41316 := by decide
  omega
/-- The sum of the steps of the leaps before a day. -/
def grownF : List (Int × Int) → Int → Int
  | [], _ => 0
  | x :: l, d => (if x.1 < d then x.2 else 0) + grownF l d
/-- The step of the leap at the end of a day. -/
def stepF : List (Int × Int) → Int → Int
  | [], _ => 0
  | x :: l, d => if x.1 = d then x.2 else stepF l d
def beginF (l : List (Int × Int)) (d : Int) : Int := 86400 * (d - 41317) + grownF l d
theorem grown_append (d : Int) : ∀ l m : List (Int × Int), grownF (l ++ m) d = grownF l d + grownF m d
  | [], m => by simp [grownF]
  | x :: l, m => by simp [grownF, grown_append d l m]; omega
/-- A day is the last one of a month (or not of the calendar). -/
def meF (d : Int) : Bool := !(decide (41317 ≤ d) && decide (d ≤ 88068)) || decide (cD d = mlen (cY d) (cM d))
/-- What is wrong with a leap, behind those that were looked at. -/
def leapE (u : Int) (p : Option Int) (x : Int × Int) : Int :=
  if (x.2 ≠ 1 ∧ x.2 ≠ -1) ∨ meF x.1 = false then 91 else if x.1 < 41317 ∨ u - 1 < x.1 then 6 else match p with | none => 0 | some q => if x.1 ≤ q then 11 else 0
def leapsE (u : Int) : Option Int → List (Int × Int) → Int
  | _, [] => 0
  | p, x :: l => if leapE u p x = 0 then leapsE u (some x.1) l else leapE u p x
/-- What is wrong with a table: 0 if nothing is. -/
def checkF (b : Int) (l : List (Int × Int)) (u : Int) : Int :=
  if b < 0 ∨ 100 < b ∨ u < 41318 ∨ 88069 < u then 6 else if 100 < l.length then 2 else leapsE u none l
/-- A table that is right. -/
structure Right (u : Int) (l : List (Int × Int)) : Prop where
  steps : ∀ x ∈ l, (x.2 = 1 ∨ x.2 = -1) ∧ 41317 ≤ x.1 ∧ x.1 < u
  rising : l.Pairwise (fun x y => x.1 < y.1)
theorem leapE_zero {u : Int} {p : Option Int} {x : Int × Int} (h : leapE u p x = 0) : (x.2 = 1 ∨ x.2 = -1) ∧ meF x.1 = true ∧ 41317 ≤ x.1 ∧ x.1 < u ∧ ∀ q, p = some q → q < x.1 := by
  unfold leapE at h
  split at h
  · cases h
  · rename_i h1
    split at h
    · cases h
    · rename_i h2
      have h3 : meF x.1 = true := by cases hm : meF x.1 <;> simp_all
      refine ⟨by omega, h3, by omega, by omega, ?_⟩
      rintro q rfl
      simp only at h
      split at h
      · cases h
      · omega
theorem leapsE_right {u : Int} : ∀ (l : List (Int × Int)) (p : Option Int), leapsE u p l = 0 → Right u l ∧ ∀ q, p = some q → ∀ x ∈ l, q < x.1
  | [], p, _ => ⟨⟨(by simp), List.Pairwise.nil⟩, by simp⟩
  | x :: l, p, h => by
    unfold leapsE at h
    split at h
    · rename_i h1
      obtain ⟨a1, a2, a3, a4, a5⟩ := leapE_zero h1
      obtain ⟨b1, b2⟩ := leapsE_right l _ h
      have b3 := b2 x.1 rfl
      refine ⟨⟨?_, List.Pairwise.cons b3 b1.rising⟩, ?_⟩
      · intro z hz
        rcases List.mem_cons.1 hz with rfl | hz
        · exact ⟨a1, a3, a4⟩
        · exact b1.steps z hz
      · intro q hq z hz
        rcases List.mem_cons.1 hz with rfl | hz
        · exact a5 q hq
        · have := a5 q hq; have := b3 z hz; omega
    · rename_i h1; exact absurd h h1
theorem checkF_right {b u : Int} {l : List (Int × Int)} (h : checkF b l u = 0) : 0 ≤ b ∧ b ≤ 100 ∧ 41318 ≤ u ∧ u ≤ 88069 ∧ l.length ≤ 100 ∧ Right u l := by
  unfold checkF at h
  split at h
  · cases h
  · split at h
    · cases h
    · exact ⟨by omega, by omega, by omega, by omega, by omega, (leapsE_right l none h).1⟩
theorem grown_bound {u : Int} (d : Int) : ∀ (l : List (Int × Int)), (∀ x ∈ l, x.2 = 1 ∨ x.2 = -1) → -(l.length : Int) ≤ grownF l d ∧ grownF l d ≤ l.length
  | [], _ => by simp [grownF]
  | x :: l, h => by
    have := grown_bound (u := u) d l (fun z hz => h z (List.mem_cons_of_mem _ hz))
    have := h x (List.mem_cons_self ..)
    unfold grownF
    simp only [List.length_cons]
    split <;> omega
theorem step_bound (d : Int) : ∀ (l : List (Int × Int)), (∀ x ∈ l, x.2 = 1 ∨ x.2 = -1) → -1 ≤ stepF l d ∧ stepF l d ≤ 1
  | [], _ => by simp [stepF]
  | x :: l, h => by
    have := step_bound d l (fun z hz => h z (List.mem_cons_of_mem _ hz))
    have := h x (List.mem_cons_self ..)
    unfold stepF
    split <;> omega
end Go.Proofs.Ytleipbanadnchaa.C
