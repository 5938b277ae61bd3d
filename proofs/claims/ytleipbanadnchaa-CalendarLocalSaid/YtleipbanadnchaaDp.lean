/- Seconds of a table, in plain Lean. -/
import Derived.Test.YtleipbanadnchaaCb
namespace Go.Proofs.Ytleipbanadnchaa.C
theorem grown_step {u : Int} : ∀ {l : List (Int × Int)}, l.Pairwise (fun x y => x.1 < y.1) → ∀ d, grownF l (d + 1) = grownF l d + stepF l d
  | [], _, d => rfl
  | x :: l, hp, d => by
    obtain ⟨h1, h2⟩ := List.pairwise_cons.1 hp
    have ih := grown_step (u := u) h2 d
    show (if x.1 < d + 1 then x.2 else 0) + grownF l (d + 1) = (if x.1 < d then x.2 else 0) + grownF l d + (if x.1 = d then x.2 else stepF l d)
    by_cases hx : x.1 = d
    · rw [if_pos (by omega), if_neg (by omega), if_pos hx]
      have hg : ∀ (m : List (Int × Int)), (∀ z ∈ m, d < z.1) → grownF m (d + 1) = 0 ∧ grownF m d = 0 := by
        intro m
        induction m with
        | nil => exact fun _ => ⟨rfl, rfl⟩
        | cons z m ih =>
          intro hz
          obtain ⟨i1, i2⟩ := ih (fun y hy => hz y (List.mem_cons_of_mem _ hy))
          have := hz z (List.mem_cons_self ..)
          constructor
          · show (if z.1 < d + 1 then z.2 else 0) + grownF m (d + 1) = 0
            rw [if_neg (by omega), i1]; rfl
          · show (if z.1 < d then z.2 else 0) + grownF m d = 0
            rw [if_neg (by omega), i2]; rfl
      obtain ⟨g1, g2⟩ := hg l (fun z hz => by have := h1 z hz; omega)
      rw [g1, g2]; omega
    · rw [if_neg hx]
      by_cases hy : x.1 < d
      · rw [if_pos (by omega), if_pos hy]; omega
      · rw [if_neg (by omega), if_neg hy]; omega
theorem Right.next {u : Int} {l : List (Int × Int)} (h : Right u l) (d : Int) : beginF l (d + 1) = beginF l d + 86400 + stepF l d ∧ -1 ≤ stepF l d ∧ stepF l d ≤ 1 := by
  have h1 := grown_step (u := u) h.rising d
  have h2 := step_bound d l (fun x hx => (h.steps x hx).1)
  unfold beginF
  omega
theorem Right.mono {u : Int} {l : List (Int × Int)} (h : Right u l) {d e : Int} (hde : d ≤ e) : beginF l d + 86399 * (e - d) ≤ beginF l e := by
  obtain ⟨k, rfl⟩ : ∃ k : Nat, e = d + k := ⟨(e - d).toNat, by omega⟩
  induction k with
  | zero => simp
  | succ k ih =>
    have := h.next (d + k)
    have ih := ih (by omega)
    rw [show d + ((k + 1 : Nat) : Int) = d + k + 1 by omega]
    omega
theorem Right.first {u : Int} {l : List (Int × Int)} (h : Right u l) : beginF l 41317 = 0 := by
  have : ∀ (m : List (Int × Int)), (∀ x ∈ m, 41317 ≤ x.1) → grownF m 41317 = 0 := by
    intro m
    induction m with
    | nil => exact fun _ => rfl
    | cons z m ih =>
      intro hz
      show (if z.1 < 41317 then z.2 else 0) + grownF m 41317 = 0
      rw [if_neg (by have := hz z (List.mem_cons_self ..); omega), ih (fun y hy => hz y (List.mem_cons_of_mem _ hy))]; rfl
  unfold beginF
  rw [this l (fun x hx => (h.steps x hx).2.1)]
  rfl
/-- The day of a second. -/
structure IsDay (l : List (Int × Int)) (u s D : Int) : Prop where
  d0 : 41317 ≤ D
  d1 : D < u
  lo : beginF l D ≤ s
  hi : s < beginF l (D + 1)
theorem IsDay.unique {l : List (Int × Int)} {u s D E : Int} (hR : Right u l) (h : IsDay l u s D) (h' : IsDay l u s E) : E = D := by
  rcases Int.lt_trichotomy D E with c | c | c
  · have := hR.mono (d := D + 1) (e := E) (by omega)
    have := h.hi; have := h'.lo; omega
  · exact c.symm
  · have := hR.mono (d := E + 1) (e := D) (by omega)
    have := h'.hi; have := h.lo; omega
theorem IsDay.exists {l : List (Int × Int)} {u s : Int} (hR : Right u l) (h0 : 0 ≤ s) (h1 : s < beginF l u) : ∃ D, IsDay l u s D := by
  have hu : 41317 ≤ u := by
    rcases Int.lt_or_le u 41317 with c | c
    · have := hR.mono (d := u) (e := 41317) (by omega); rw [hR.first] at this; omega
    · exact c
  obtain ⟨k, rfl⟩ : ∃ k : Nat, u = 41317 + k := ⟨(u - 41317).toNat, by omega⟩
  have : ∀ j : Nat, s < beginF l (41317 + (j : Int)) → ∃ D : Int, 41317 ≤ D ∧ D < 41317 + (j : Int) ∧ beginF l D ≤ s ∧ s < beginF l (D + 1) := by
    intro j
    induction j with
    | zero => intro h; rw [show (41317 : Int) + ((0 : Nat) : Int) = 41317 by omega, hR.first] at h; omega
    | succ j ih =>
      intro h
      rcases Int.lt_or_le s (beginF l (41317 + j)) with c | c
      · obtain ⟨D, a, b, c, d⟩ := ih c; exact ⟨D, a, by omega, c, d⟩
      · exact ⟨41317 + j, by omega, by omega, c, by rw [show (41317 : Int) + j + 1 = 41317 + ((j + 1 : Nat) : Int) by omega]; exact h⟩
  obtain ⟨D, a, b, c, d⟩ := this k h1
  exact ⟨D, a, b, c, d⟩
theorem IsDay.begin_lt {l : List (Int × Int)} {u s D : Int} (hR : Right u l) (h : IsDay l u s D) {d : Int} : (beginF l d ≤ s ↔ d ≤ D) := by
  constructor
  · intro h1
    rcases Int.lt_or_le D d with c | c
    · have := hR.mono (d := D + 1) (e := d) (by omega); have := h.hi; omega
    · exact c
  · intro h1
    have := hR.mono h1; have := h.lo; omega
def knowsB (l : List (Int × Int)) (u s : Int) : Bool := decide (0 ≤ s) && decide (s < beginF l u)
theorem knowsB_iff {l : List (Int × Int)} {u s : Int} : knowsB l u s = true ↔ 0 ≤ s ∧ s < beginF l u := by simp [knowsB]
theorem IsDay.knows {l : List (Int × Int)} {u s D : Int} (hR : Right u l) (h : IsDay l u s D) : knowsB l u s = true := by
  have h1 := hR.mono h.d0
  rw [hR.first] at h1
  have h2 := hR.mono (d := D + 1) (e := u) (by have := h.d1; omega)
  have h3 := h.d1
  exact knowsB_iff.2 ⟨by have := h.lo; have := h.d0; omega, by have := h.hi; omega⟩
/-! What the table's functions answer: a value, and an error. -/
def lengthR (b : Int) (l : List (Int × Int)) (u d : Int) : Int × Int := if checkF b l u = 0 then (if 41317 ≤ d ∧ d ≤ u - 1 then (86400 + stepF l d, 0) else (0, 6)) else (0, checkF b l u)
def offsetR (b : Int) (l : List (Int × Int)) (u d : Int) : Int × Int := if checkF b l u = 0 then (if 41317 ≤ d ∧ d ≤ u - 1 then (b + grownF l d, 0) else (0, 6)) else (0, checkF b l u)
def totalR (b : Int) (l : List (Int × Int)) (u : Int) : Int × Int := if checkF b l u = 0 then (beginF l u, 0) else (0, checkF b l u)
/-- What is wrong with a second. -/
def askE (b : Int) (l : List (Int × Int)) (u s : Int) : Int := if checkF b l u = 0 then (if knowsB l u s = true then 0 else 6) else checkF b l u
theorem askE_zero {b u s : Int} {l : List (Int × Int)} (h : askE b l u s = 0) : checkF b l u = 0 ∧ knowsB l u s = true := by
  unfold askE at h
  split at h
  · rename_i h1
    split at h
    · rename_i h2; exact ⟨h1, h2⟩
    · cases h
  · rename_i h1; exact absurd h h1
def atomicR (b : Int) (l : List (Int × Int)) (u s : Int) : Int × Int := if askE b l u s = 0 then (s + b, 0) else (0, askE b l u s)
/-- The date of a second: the clock's part. -/
def ckH (n : Int) : Int := if 86400 ≤ n then 23 else n / 3600
def ckM (n : Int) : Int := if 86400 ≤ n then 59 else n / 60 % 60
def ckS (n : Int) : Int := if 86400 ≤ n then 60 else n % 60
/-- A date is a second of a table. -/
def secOk (l : List (Int × Int)) (u y m d h i s : Int) : Bool :=
  okD y m d && decide (0 ≤ h ∧ h ≤ 23 ∧ 0 ≤ i ∧ i ≤ 59 ∧ 0 ≤ s ∧ s ≤ 60 ∧ dayN y m d < u ∧ 3600 * h + 60 * i + s < 86400 + stepF l (dayN y m d) ∧ (s = 60 → 3600 * h + 60 * i + s = 86400))
def secondsR (b : Int) (l : List (Int × Int)) (u y m d h i s : Int) : Int × Int :=
  if checkF b l u = 0 then (if secOk l u y m d h i s = true then (beginF l (dayN y m d) + (3600 * h + 60 * i + s), 0) else (0, 90)) else (0, checkF b l u)
end Go.Proofs.Ytleipbanadnchaa.C
