/- What a chart of a plan says, in plain Lean: the rounds of the chart lose the states from which no allowed rate holds, and a chart's value at a lost state is 1000 and its round.
   With more room, or less noise, no state is lost that was not lost before; and opposite states are lost in the same round. -/
import Derived.Test.YtcaekmalkbaldaaM5
namespace Go.Proofs.Ytcaekmalkbaldaa.M
set_option linter.unusedVariables false
set_option linter.unusedSimpArgs false
open Go.RowKit Go.Shelf Go.Proofs.YtcaekmalkbaldaaW.PrintWords Go.Proofs.YtcaekmalkbaldaaW.PrintLast Go.Proofs.YtcaekmalkbaldaaW.PrintMore
set_option linter.unusedVariables false

theorem rd_nat (o : List Int) (k : Nat) : rd o (k : Int) = o.getD k 0 := by simp [rd]
theorem rd_set (o : List Int) (k j : Nat) (v : Int) (hk : k < o.length) : rd (o.set k v) (j : Int) = if j = k then v else rd o j := by
  rw [rd_nat, rd_nat, List.getD_eq_getElem?_getD, List.getD_eq_getElem?_getD, List.getElem?_set]
  by_cases h : k = j
  · subst h; simp [hk]
  · rw [if_neg h, if_neg (fun e => h e.symm)]

theorem isB_iff {L R x y : Int} : isB L R x y = true ↔ -L ≤ x ∧ x ≤ L ∧ -R ≤ y ∧ y ≤ R := by
  simp only [isB, Bool.and_eq_true, decide_eq_true_eq, and_assoc]
theorem holdsB_iff {L R N e q : Int} {g : Int → Int → Bool} (hN : 0 ≤ N) :
    holdsB L R N e q g = true ↔ ∀ d : Int, -N ≤ d → d ≤ N → isB L R (e + q + d) q = true ∧ g (e + q + d) q = true := by
  simp only [holdsB, List.all_eq_true, List.mem_range, okB, Bool.and_eq_true]
  constructor
  · intro h d h1 h2
    have := h (d + N).toNat (by omega)
    rw [show (-N + (((d + N).toNat : Nat) : Int)) = d by omega] at this
    exact this
  · intro h k hk
    exact h _ (by omega) (by omega)
theorem mem_rates {R S r q : Int} : q ∈ ratesL R S r ↔ -R ≤ q ∧ q ≤ R ∧ q ≤ r + S ∧ r - S ≤ q :=
  ⟨rates_mem, fun h => rates_of h.1 h.2.1 h.2.2.1 h.2.2.2⟩
theorem bestOf_some_of_ne {α : Type} (f : α → Int) : ∀ (l : List α) (acc : Option α), (l ≠ [] ∨ acc ≠ none) → l.foldl (bestStep f) acc ≠ none
  | [], acc, h => by rcases h with h | h; exact absurd rfl h; exact h
  | y :: l, acc, _ => by
    rw [List.foldl_cons]
    refine bestOf_some_of_ne f l _ (.inr ?_)
    unfold bestStep
    split
    · simp
    · split <;> simp
theorem bestOf_none {α : Type} {f : α → Int} {l : List α} : bestOf f l = none ↔ l = [] := by
  constructor
  · intro h
    by_cases hl : l = []
    · exact hl
    · exact absurd h (bestOf_some_of_ne f l none (.inl hl))
  · rintro rfl; rfl

/-- Which states are not lost after n rounds. -/
def T (L R S N : Int) : Nat → Int → Int → Bool
  | 0, e, r => isB L R e r
  | n + 1, e, r => T L R S N n e r && (ratesL R S r).any fun q => holdsB L R N e q (T L R S N n)

theorem T_bound {L R S N : Int} : ∀ (n : Nat) {e r : Int}, T L R S N n e r = true → isB L R e r = true
  | 0, _, _, h => h
  | n + 1, _, _, h => by
    unfold T at h
    rw [Bool.and_eq_true] at h
    exact T_bound n h.1
theorem T_succ_iff {L R S N e r : Int} {n : Nat} (hN : 0 ≤ N) : T L R S N (n + 1) e r = true ↔ T L R S N n e r = true ∧ ∃ q, (-R ≤ q ∧ q ≤ R ∧ q ≤ r + S ∧ r - S ≤ q) ∧ ∀ d : Int, -N ≤ d → d ≤ N → T L R S N n (e + q + d) q = true := by
  rw [T, Bool.and_eq_true, List.any_eq_true]
  constructor
  · rintro ⟨h1, q, hq, h⟩
    exact ⟨h1, q, mem_rates.1 hq, fun d hd1 hd2 => ((holdsB_iff hN).1 h d hd1 hd2).2⟩
  · rintro ⟨h1, q, hq, h⟩
    exact ⟨h1, q, mem_rates.2 hq, (holdsB_iff hN).2 fun d hd1 hd2 => ⟨T_bound n (h d hd1 hd2), h d hd1 hd2⟩⟩
theorem T_le {L R S N e r : Int} {n m : Nat} (h : T L R S N m e r = true) (hm : n ≤ m) : T L R S N n e r = true := by
  induction m with
  | zero => rw [Nat.le_zero.1 hm]; exact h
  | succ m ih =>
    rcases Nat.lt_or_ge n (m + 1) with hn | hn
    · refine ih ?_ (by omega)
      rw [T, Bool.and_eq_true] at h
      exact h.1
    · rw [Nat.le_antisymm hm hn]; exact h
/-- Opposite states. -/
theorem T_neg {L R S N : Int} (hN : 0 ≤ N) : ∀ (n : Nat) {e r : Int}, T L R S N n e r = true → T L R S N n (-e) (-r) = true
  | 0, e, r, h => by
    have := isB_iff.1 (show isB L R e r = true from h)
    exact isB_iff.2 (by omega)
  | n + 1, e, r, h => by
    obtain ⟨h1, q, hq, h2⟩ := (T_succ_iff hN).1 h
    refine (T_succ_iff hN).2 ⟨T_neg hN n h1, -q, by omega, fun d hd1 hd2 => ?_⟩
    have := T_neg hN n (h2 (-d) (by omega) (by omega))
    rw [show -e + -q + d = -(e + q + -d) by omega]
    exact this
theorem T_neg_eq {L R S N : Int} (hN : 0 ≤ N) (n : Nat) (e r : Int) : T L R S N n (-e) (-r) = T L R S N n e r := by
  rw [Bool.eq_iff_iff]
  refine ⟨fun h => ?_, T_neg hN n⟩
  have := T_neg hN n h
  rwa [Int.neg_neg, Int.neg_neg] at this
/-- More room, less noise. -/
theorem T_mono {L R S N L' R' S' N' : Int} (hL : L ≤ L') (hR : R ≤ R') (hS : S ≤ S') (hN' : 0 ≤ N') (hN : N' ≤ N) {m : Nat}
    (hm : ∀ e r, T L R S N m e r = true → T L R S N (m + 1) e r = true) : ∀ (n : Nat) {e r : Int}, T L R S N m e r = true → T L' R' S' N' n e r = true
  | 0, e, r, h => by
    have := isB_iff.1 (T_bound m h)
    exact isB_iff.2 (by omega)
  | n + 1, e, r, h => by
    obtain ⟨_, q, hq, h2⟩ := (T_succ_iff (by omega)).1 (hm e r h)
    refine (T_succ_iff hN').2 ⟨T_mono hL hR hS hN' hN hm n h, q, by omega, fun d hd1 hd2 => T_mono hL hR hS hN' hN hm n (h2 d (by omega) (by omega))⟩

/-! ### A round -/
section
variable (L R S N : Int)
theorem holdsB_congr {e q : Int} {g g' : Int → Int → Bool} (h : ∀ x y, isB L R x y = true → g x y = g' x y) : holdsB L R N e q g = holdsB L R N e q g' := by
  unfold holdsB
  rw [Bool.eq_iff_iff, List.all_eq_true, List.all_eq_true]
  have hk : ∀ k, okB L R N e q g k = okB L R N e q g' k := by
    intro k
    unfold okB
    cases hb : isB L R (e + q + (-N + (k : Int))) q
    · rfl
    · rw [h _ _ hb]
  simp only [hk]
theorem keepO_congr (o o' : List Int) (h : ∀ x y, isB L R x y = true → goodO L R o x y = goodO L R o' x y) (k : Nat) : keepO L R S N o k = keepO L R S N o' k := by
  unfold keepO
  congr 1
  funext q
  exact holdsB_congr L R N h

/-- A state's value behind a round, if it was not lost in it. -/
def roundV (o : List Int) (k : Nat) : Int := if rd o k < 1000 then (match bestOf nearF (keepO L R S N o k) with | none => rd o k | some q => q) else rd o k
def lostB (o : List Int) (k : Nat) : Bool := decide (rd o k < 1000) && (keepO L R S N o k).isEmpty

theorem roundV_lt (hR : R ≤ 12) (o : List Int) (k : Nat) : roundV L R S N o k < 1000 ↔ rd o k < 1000 := by
  unfold roundV
  split
  · rename_i h
    split
    · exact Iff.rfl
    · rename_i q hq
      have := rates_mem ((List.mem_filter.1 (bestOf_mem hq)).1)
      exact ⟨fun _ => h, fun _ => by omega⟩
  · exact Iff.rfl

theorem fold_spec (hL0 : 1 ≤ L) (hR0 : 0 ≤ R) (hR : R ≤ 12) (o : List Int) (ho : o.length = siz L R) : ∀ m, m ≤ siz L R →
    ((List.range m).foldl (stepC L R S N) (o, [])).1.length = siz L R ∧
    (∀ j : Nat, j < siz L R → rd ((List.range m).foldl (stepC L R S N) (o, [])).1 j = if j < m then roundV L R S N o j else rd o j) ∧
    ((List.range m).foldl (stepC L R S N) (o, [])).2 = (List.range m).filter (lostB L R S N o)
  | 0, _ => ⟨ho, fun j _ => by simp, rfl⟩
  | m + 1, hm => by
    obtain ⟨h1, h2, h3⟩ := fold_spec hL0 hR0 hR o ho m (by omega)
    rw [List.range_succ, List.foldl_append, List.filter_append]
    generalize (List.range m).foldl (stepC L R S N) (o, []) = st at h1 h2 h3 ⊢
    have hm0 : rd st.1 m = rd o m := by rw [h2 m (by omega), if_neg (by omega)]
    have hk : keepO L R S N st.1 m = keepO L R S N o m := by
      refine keepO_congr L R S N _ _ (fun x y hxy => ?_) m
      obtain ⟨j, hj, e⟩ := idx_lt hL0 hR0 hxy
      unfold goodO
      rw [e, h2 j hj]
      split
      · exact decide_eq_decide.2 (roundV_lt L R S N hR o j)
      · rfl
    simp only [List.foldl_cons, List.foldl_nil]
    unfold stepC
    rw [hm0, hk]
    by_cases hc : rd o m < 1000
    · rw [if_pos hc]
      cases hb : bestOf nearF (keepO L R S N o m) with
      | none =>
        have hl : lostB L R S N o m = true := by simp [lostB, hc, bestOf_none.1 hb]
        refine ⟨h1, fun j hj => ?_, ?_⟩
        · show rd st.1 j = _
          rw [h2 j hj]
          by_cases hjm : j = m
          · subst hjm
            rw [if_neg (by omega), if_pos (by omega)]
            unfold roundV
            rw [if_pos hc, hb]
          · by_cases hj2 : j < m
            · rw [if_pos hj2, if_pos (by omega)]
            · rw [if_neg hj2, if_neg (by omega)]
        · show st.2 ++ [m] = _
          rw [h3]
          simp [hl]
      | some q =>
        have hl : lostB L R S N o m = false := by
          have : keepO L R S N o m ≠ [] := fun e => by rw [e] at hb; cases hb
          simp [lostB, hc, this]
        refine ⟨by simpa using h1, fun j hj => ?_, ?_⟩
        · show rd (st.1.set m q) j = _
          rw [rd_set _ _ _ _ (by omega), h2 j hj]
          by_cases hjm : j = m
          · subst hjm
            rw [if_pos rfl, if_pos (by omega)]
            unfold roundV
            rw [if_pos hc, hb]
          · rw [if_neg hjm]
            by_cases hj2 : j < m
            · rw [if_pos hj2, if_pos (by omega)]
            · rw [if_neg hj2, if_neg (by omega)]
        · show st.2 = _
          rw [h3]
          simp [hl]
    · rw [if_neg hc]
      have hl : lostB L R S N o m = false := by simp [lostB, hc]
      refine ⟨h1, fun j hj => ?_, ?_⟩
      · rw [h2 j hj]
        by_cases hjm : j = m
        · subst hjm
          rw [if_neg (by omega), if_pos (by omega)]
          unfold roundV
          rw [if_neg hc]
        · by_cases hj2 : j < m
          · rw [if_pos hj2, if_pos (by omega)]
          · rw [if_neg hj2, if_neg (by omega)]
      · rw [h3]
        simp [hl]

theorem markC_rd (n : Int) : ∀ (lost : List Nat) (o : List Int) (j : Nat), (∀ i ∈ lost, i < o.length) → rd (markC n o lost) j = if j ∈ lost then 1000 + n else rd o j
  | [], o, j, _ => by simp [markC]
  | i :: l, o, j, h => by
    have h1 := markC_rd n l (o.set i (1000 + n)) j (fun x hx => by rw [List.length_set]; exact h x (by simp [hx]))
    unfold markC at h1 ⊢
    rw [List.foldl_cons, h1, rd_set _ _ _ _ (h i (by simp))]
    by_cases hj : j ∈ l
    · simp [hj]
    · by_cases hi : j = i
      · simp [hi]
      · simp [hj, hi]

/-- What a chart in the making says behind n rounds. -/
def Says (n : Nat) (o : List Int) : Prop := o.length = siz L R ∧ ∀ j : Nat, j < siz L R →
  (T L R S N n (stE L R j) (stR R j) = true → rd o j < 1000) ∧
  (T L R S N n (stE L R j) (stR R j) = false → ∃ m : Nat, m ≤ n ∧ 1 ≤ m ∧ rd o j = 1000 + (m : Int) ∧ T L R S N m (stE L R j) (stR R j) = false ∧ T L R S N (m - 1) (stE L R j) (stR R j) = true)

theorem Says.good {n : Nat} {o : List Int} (h : Says L R S N n o) (hL0 : 1 ≤ L) (hR0 : 0 ≤ R) {x y : Int} (hb : isB L R x y = true) : goodO L R o x y = T L R S N n x y := by
  obtain ⟨j, hj, e⟩ := idx_lt hL0 hR0 hb
  have hb' := isB_iff.1 hb
  have hx : stE L R j = x ∧ stR R j = y := by
    have h1 := st_index L R hR0 j
    have h2 := st_bounds L R hL0 hR0 j hj
    rw [← e] at h1
    have h3 : (2 * R + 1) * (stE L R j - x) = y - stR R j := by
      have : (stE L R j + L) * (2 * R + 1) - (x + L) * (2 * R + 1) = y - stR R j := by omega
      rw [← this, ← Int.sub_mul, Int.mul_comm]; congr 1; omega
    have h4 : stE L R j - x = 0 := by
      rcases Int.lt_trichotomy (stE L R j - x) 0 with h | h | h
      · have : (2 * R + 1) * (stE L R j - x) ≤ (2 * R + 1) * (-1) := Int.mul_le_mul_of_nonneg_left (by omega) (by omega)
        omega
      · exact h
      · have : (2 * R + 1) * 1 ≤ (2 * R + 1) * (stE L R j - x) := Int.mul_le_mul_of_nonneg_left (by omega) (by omega)
        omega
    rw [h4, Int.mul_zero] at h3
    omega
  have h1 := h.2 j hj
  rw [hx.1, hx.2] at h1
  unfold goodO
  rw [e]
  cases ht : T L R S N n x y
  · obtain ⟨m, _, _, h2, _⟩ := h1.2 ht
    rw [h2]
    exact decide_eq_false (by omega)
  · exact decide_eq_true (h1.1 ht)
end

section
variable {L R S N : Int}
theorem lostB_iff (hL0 : 1 ≤ L) (hR0 : 0 ≤ R) {n : Nat} {o : List Int} (h : Says L R S N n o) {j : Nat} (hj : j < siz L R) :
    lostB L R S N o j = (T L R S N n (stE L R j) (stR R j) && !T L R S N (n + 1) (stE L R j) (stR R j)) := by
  have h0 : decide (rd o j < 1000) = T L R S N n (stE L R j) (stR R j) := by
    have h1 := h.2 j hj
    cases ht : T L R S N n (stE L R j) (stR R j)
    · obtain ⟨m, _, _, h2, _⟩ := h1.2 ht
      rw [h2]
      exact decide_eq_false (by omega)
    · exact decide_eq_true (h1.1 ht)
  unfold lostB
  rw [h0, T]
  cases ht : T L R S N n (stE L R j) (stR R j)
  · rfl
  · have h1 : (keepO L R S N o j).isEmpty = !((ratesL R S (stR R j)).any fun q => holdsB L R N (stE L R j) q (T L R S N n)) := by
      unfold keepO
      have : (fun q => holdsB L R N (stE L R j) q (goodO L R o)) = fun q => holdsB L R N (stE L R j) q (T L R S N n) := by
        funext q
        exact holdsB_congr L R N fun x y hxy => h.good L R S N hL0 hR0 hxy
      rw [this]
      generalize (fun q => holdsB L R N (stE L R j) q (T L R S N n)) = p
      induction ratesL R S (stR R j) with
      | nil => rfl
      | cons a l ih => cases hp : p a <;> simp [hp, ih]
    rw [h1]
    simp

/-- What the whole chart says. -/
def Chart (L R S N : Int) (r : List Int) : Prop := ∃ m, Says L R S N m r ∧ (∀ e y, T L R S N m e y = true → T L R S N (m + 1) e y = true)

/-- Some state has these numbers. -/
theorem st_of (hL0 : 1 ≤ L) (hR0 : 0 ≤ R) {x y : Int} (hb : isB L R x y = true) : ∃ j : Nat, j < siz L R ∧ stE L R j = x ∧ stR R j = y ∧ (x + L) * (2 * R + 1) + y + R = j := by
  obtain ⟨j, hj, e⟩ := idx_lt hL0 hR0 hb
  have hb' := isB_iff.1 hb
  have h1 := st_index L R hR0 j
  have h2 := st_bounds L R hL0 hR0 j hj
  rw [← e] at h1
  have h3 : (2 * R + 1) * (stE L R j - x) = y - stR R j := by
    have : (stE L R j + L) * (2 * R + 1) - (x + L) * (2 * R + 1) = y - stR R j := by omega
    rw [← this, ← Int.sub_mul, Int.mul_comm]; congr 1; omega
  have h4 : stE L R j - x = 0 := by
    rcases Int.lt_trichotomy (stE L R j - x) 0 with h | h | h
    · have : (2 * R + 1) * (stE L R j - x) ≤ (2 * R + 1) * (-1) := Int.mul_le_mul_of_nonneg_left (by omega) (by omega)
      omega
    · exact h
    · have : (2 * R + 1) * 1 ≤ (2 * R + 1) * (stE L R j - x) := Int.mul_le_mul_of_nonneg_left (by omega) (by omega)
      omega
  rw [h4, Int.mul_zero] at h3
  exact ⟨j, hj, by omega, by omega, e⟩

theorem chartF_spec (hL0 : 1 ≤ L) (hR0 : 0 ≤ R) (hR : R ≤ 12) : ∀ (f n : Nat) (o r : List Int), Says L R S N n o → chartF L R S N f ((n : Int) + 1) o = some r → Chart L R S N r
  | 0, _, _, _, _, h => by simp [chartF] at h
  | f + 1, n, o, r, hs, h => by
    obtain ⟨h1, h2, h3⟩ := fold_spec L R S N hL0 hR0 hR o hs.1 (siz L R) (Nat.le_refl _)
    unfold chartF at h
    generalize (List.range (siz L R)).foldl (stepC L R S N) (o, []) = st at h1 h2 h3 h
    have hv : ∀ j : Nat, j < siz L R → rd st.1 j = roundV L R S N o j := fun j hj => by rw [h2 j hj, if_pos hj]
    have hmem : ∀ j : Nat, j < siz L R → (j ∈ st.2 ↔ (T L R S N n (stE L R j) (stR R j) && !T L R S N (n + 1) (stE L R j) (stR R j)) = true) := fun j hj => by
      rw [h3, List.mem_filter, lostB_iff hL0 hR0 hs hj, List.mem_range]
      exact ⟨fun h => h.2, fun h => ⟨hj, h⟩⟩
    have hold : ∀ j : Nat, j < siz L R → ∀ m : Int, 0 ≤ m → rd o j = 1000 + m → rd st.1 j = 1000 + m := fun j hj m hm e => by
      rw [hv j hj]; unfold roundV; rw [if_neg (by omega), e]
    by_cases hc : st.2 = []
    · rw [if_pos hc] at h
      obtain rfl := Option.some.inj h
      refine ⟨n, ⟨h1, fun j hj => ⟨fun ht => ?_, fun ht => ?_⟩⟩, fun e y ht => ?_⟩
      · rw [hv j hj]
        exact (roundV_lt L R S N hR o j).2 ((hs.2 j hj).1 ht)
      · obtain ⟨m, hm1, hm2, hm3, hm4⟩ := (hs.2 j hj).2 ht
        exact ⟨m, hm1, hm2, hold j hj m (by omega) hm3, hm4⟩
      · obtain ⟨j, hj, he, hy, _⟩ := st_of hL0 hR0 (T_bound n ht)
        have := hmem j hj
        rw [hc, he, hy, ht] at this
        cases h5 : T L R S N (n + 1) e y
        · rw [h5] at this; exact absurd (this.2 rfl) (by simp)
        · rfl
    · rw [if_neg hc] at h
      have hlen : ∀ i ∈ st.2, i < st.1.length := fun i hi => by
        rw [h3, List.mem_filter, List.mem_range] at hi
        rw [h1]; exact hi.1
      refine chartF_spec hL0 hR0 hR f (n + 1) (markC ((n : Int) + 1) st.1 st.2) r ⟨by rw [markC_len, h1], fun j hj => ⟨fun ht => ?_, fun ht => ?_⟩⟩ (by rw [show (((n + 1 : Nat) : Int) + 1) = (n : Int) + 1 + 1 by omega]; exact h)
      · have h4 := T_le ht (Nat.le_succ n)
        rw [markC_rd _ _ _ _ hlen, if_neg (fun hm => by rw [hmem j hj, h4, ht] at hm; simp at hm), hv j hj]
        exact (roundV_lt L R S N hR o j).2 ((hs.2 j hj).1 h4)
      · rw [markC_rd _ _ _ _ hlen]
        cases h4 : T L R S N n (stE L R j) (stR R j)
        · obtain ⟨m, hm1, hm2, hm3, hm4⟩ := (hs.2 j hj).2 h4
          refine ⟨m, by omega, hm2, ?_, hm4⟩
          rw [if_neg (fun hm => by rw [hmem j hj, h4] at hm; simp at hm)]
          exact hold j hj m (by omega) hm3
        · refine ⟨n + 1, Nat.le_refl _, by omega, ?_, ht, h4⟩
          rw [if_pos ((hmem j hj).2 (by rw [h4, ht]; rfl))]
          omega

/-- How many states are not lost. -/
def cnt (o : List Int) : Nat := (o.filter fun v => decide (v < 1000)).length
theorem cnt_le (o : List Int) : cnt o ≤ o.length := List.length_filter_le _ _
theorem cnt_set (o : List Int) (k : Nat) (v : Int) (hv : v < 1000 → rd o k < 1000) (hk : k < o.length) : cnt (o.set k v) ≤ cnt o := by
  induction o generalizing k with
  | nil => simp at hk
  | cons a l ih =>
    cases k with
    | zero =>
      have hv' : v < 1000 → a < 1000 := hv
      by_cases h1 : v < 1000
      · simp [cnt, h1, hv' h1]
      · by_cases h2 : a < 1000 <;> simp [cnt, h1, h2]
    | succ k =>
      have hv' : v < 1000 → rd l (k : Int) < 1000 := fun h => by
        have := hv h
        rw [rd_nat] at this ⊢
        exact this
      have h3 := ih k hv' (by simpa using hk)
      unfold cnt at h3 ⊢
      rw [List.set_cons_succ, List.filter_cons, List.filter_cons]
      split
      · simp only [List.length_cons]; omega
      · exact h3
theorem cnt_set_lt (o : List Int) (k : Nat) (v : Int) (hv : 1000 ≤ v) (hk : k < o.length) (ho : rd o k < 1000) : cnt (o.set k v) < cnt o := by
  induction o generalizing k with
  | nil => simp at hk
  | cons a l ih =>
    cases k with
    | zero =>
      have ho' : a < 1000 := ho
      have h1 : ¬ v < 1000 := by omega
      simp [cnt, h1, ho']
    | succ k =>
      have ho' : rd l (k : Int) < 1000 := by rw [rd_nat] at ho ⊢; exact ho
      have h3 := ih k (by simpa using hk) ho'
      unfold cnt at h3 ⊢
      rw [List.set_cons_succ, List.filter_cons, List.filter_cons]
      split
      · simp only [List.length_cons]; omega
      · exact h3
theorem cnt_mark (n : Int) (hn : 0 ≤ n) : ∀ (lost : List Nat) (o : List Int), (∀ i ∈ lost, i < o.length) → cnt (markC n o lost) ≤ cnt o
  | [], _, _ => Nat.le_refl _
  | i :: l, o, h => by
    have h1 := cnt_mark n hn l (o.set i (1000 + n)) (fun x hx => by rw [List.length_set]; exact h x (by simp [hx]))
    have h2 := cnt_set o i (1000 + n) (fun hh => by omega) (h i (by simp))
    unfold markC at h1 ⊢
    rw [List.foldl_cons]
    omega
theorem cnt_mark_lt (n : Int) (hn : 0 ≤ n) (i : Nat) (l : List Nat) (o : List Int) (h : ∀ j ∈ i :: l, j < o.length) (hi : rd o i < 1000) : cnt (markC n o (i :: l)) < cnt o := by
  have h1 := cnt_mark n hn l (o.set i (1000 + n)) (fun x hx => by rw [List.length_set]; exact h x (by simp [hx]))
  have h2 := cnt_set_lt o i (1000 + n) (by omega) (h i (by simp)) hi
  unfold markC at h1 ⊢
  rw [List.foldl_cons]
  omega
theorem cnt_congr : ∀ (o o' : List Int), o.length = o'.length → (∀ j : Nat, j < o.length → (rd o j < 1000 ↔ rd o' j < 1000)) → cnt o = cnt o'
  | [], [], _, _ => rfl
  | a :: l, b :: l', hl, h => by
    have h0 : a < 1000 ↔ b < 1000 := by have := h 0 (by simp); simpa [rd] using this
    have h1 := cnt_congr l l' (by simpa using hl) (fun j hj => by
      have := h (j + 1) (by simpa using hj)
      simp only [rd_nat] at this ⊢
      exact this)
    unfold cnt at h1 ⊢
    rw [List.filter_cons, List.filter_cons]
    by_cases ha : a < 1000
    · simp [ha, h0.1 ha, h1]
    · have hb : ¬ b < 1000 := fun hb => ha (h0.2 hb)
      simp [ha, hb, h1]
  | [], b :: l', hl, _ => by simp at hl
  | a :: l, [], hl, _ => by simp at hl

theorem chartF_some (hL0 : 1 ≤ L) (hR0 : 0 ≤ R) (hR : R ≤ 12) : ∀ (f : Nat) (n : Int) (o : List Int), 0 ≤ n → o.length = siz L R → cnt o < f → ∃ r, chartF L R S N f n o = some r
  | 0, _, _, _, _, h => absurd h (Nat.not_lt_zero _)
  | f + 1, n, o, hn, ho, h => by
    obtain ⟨h1, h2, h3⟩ := fold_spec L R S N hL0 hR0 hR o ho (siz L R) (Nat.le_refl _)
    unfold chartF
    generalize (List.range (siz L R)).foldl (stepC L R S N) (o, []) = st at h1 h2 h3 ⊢
    have hv : ∀ j : Nat, j < siz L R → (rd st.1 j < 1000 ↔ rd o j < 1000) := fun j hj => by rw [h2 j hj, if_pos hj]; exact roundV_lt L R S N hR o j
    have hc1 : cnt st.1 = cnt o := cnt_congr _ _ (by rw [h1, ho]) (fun j hj => hv j (by rw [← h1]; exact hj))
    by_cases hc : st.2 = []
    · exact ⟨_, if_pos hc⟩
    · rw [if_neg hc]
      have hmem : ∀ i ∈ st.2, i < siz L R ∧ rd o i < 1000 := fun i hi => by
        rw [h3, List.mem_filter, List.mem_range] at hi
        refine ⟨hi.1, ?_⟩
        have := hi.2
        unfold lostB at this
        rw [Bool.and_eq_true] at this
        exact of_decide_eq_true this.1
      have hlt : cnt (markC n st.1 st.2) < cnt st.1 := by
        obtain ⟨i, l, e⟩ := List.exists_cons_of_ne_nil hc
        rw [e] at hmem ⊢
        exact cnt_mark_lt n hn i l st.1 (fun j hj => by rw [h1]; exact (hmem j hj).1) ((hv i (hmem i (by simp)).1).2 (hmem i (by simp)).2)
      exact chartF_some hL0 hR0 hR f (n + 1) _ (by omega) (by rw [markC_len, h1]) (by omega)

theorem rightB_iff : rightB L R S N = true ↔ 1 ≤ L ∧ L ≤ 40 ∧ 0 ≤ R ∧ R ≤ 12 ∧ 1 ≤ S ∧ S ≤ 24 ∧ 0 ≤ N ∧ N ≤ 12 := by
  simp only [rightB, Bool.and_eq_true, decide_eq_true_eq, and_assoc]
theorem chart_some (h : rightB L R S N = true) : ∃ r, steer_Plan_chart.f L R S N = some r := by
  have h' := rightB_iff.1 h
  unfold steer_Plan_chart.f
  rw [if_pos h]
  refine chartF_some (by omega) (by omega) (by omega) _ _ _ (by omega) (by simp) ?_
  have := cnt_le (List.replicate (siz L R) (0 : Int))
  rw [List.length_replicate] at this
  omega
theorem chart_says {r : List Int} (h : steer_Plan_chart.f L R S N = some r) : rightB L R S N = true ∧ Chart L R S N r := by
  unfold steer_Plan_chart.f at h
  split at h
  · rename_i hr
    have h' := rightB_iff.1 hr
    refine ⟨hr, chartF_spec (by omega) (by omega) (by omega) _ 0 _ r ⟨List.length_replicate, fun j hj => ⟨fun _ => ?_, fun ht => ?_⟩⟩ (by exact h)⟩
    · rw [rd_nat, List.getD_eq_getElem?_getD, List.getElem?_replicate, if_pos hj]; decide
    · have h1 := st_bounds L R (by omega) (by omega) j hj
      rw [show T L R S N 0 (stE L R j) (stR R j) = true from isB_iff.2 h1] at ht
      cases ht
  · cases h
/-- The value of a chart at a state. -/
theorem Chart.at {r : List Int} (h : Chart L R S N r) (hL0 : 1 ≤ L) (hR0 : 0 ≤ R) {x y : Int} (hb : isB L R x y = true) :
    ∃ m, (∀ e y, T L R S N m e y = true → T L R S N (m + 1) e y = true) ∧ ∃ j : Nat, j < r.length ∧ (x + L) * (2 * R + 1) + y + R = j ∧ (T L R S N m x y = true → rd r j < 1000) ∧
      (T L R S N m x y = false → ∃ k : Nat, 1 ≤ k ∧ rd r j = 1000 + (k : Int) ∧ T L R S N k x y = false ∧ T L R S N (k - 1) x y = true) := by
  obtain ⟨m, hs, hm⟩ := h
  obtain ⟨j, hj, he, hy, hi⟩ := st_of hL0 hR0 hb
  have h1 := hs.2 j hj
  rw [he, hy] at h1
  refine ⟨m, hm, j, by rw [hs.1]; exact hj, hi, h1.1, fun ht => ?_⟩
  obtain ⟨k, _, hk⟩ := h1.2 ht
  exact ⟨k, hk⟩
end
end Go.Proofs.Ytcaekmalkbaldaa.M
