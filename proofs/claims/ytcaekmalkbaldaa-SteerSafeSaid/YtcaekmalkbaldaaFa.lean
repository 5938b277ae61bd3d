/- Where 'Force' leads, in plain Lean. -/
import Derived.Test.YtcaekmalkbaldaaCb
import Derived.Test.YtcaekmalkbaldaaFp
namespace Go.Proofs.Ytcaekmalkbaldaa.M
open Go.RowKit Go.Shelf Go.Proofs.YtcaekmalkbaldaaW.PrintWords Go.Proofs.YtcaekmalkbaldaaW.PrintLast Go.Proofs.YtcaekmalkbaldaaW.PrintMore
set_option linter.unusedVariables false
set_option linter.unusedSimpArgs false
section
variable {L R S N : Int}
theorem bestG_min {α : Type} {f : α → Int} : ∀ (l : List α) (acc : Option α) (q : α), l.foldl (bestStep f) acc = some q → (∀ x ∈ l, f q ≤ f x) ∧ (∀ x, acc = some x → f q ≤ f x)
  | [], acc, q, h => by
    simp only [List.foldl_nil] at h
    exact ⟨fun x hx => (by cases hx), fun x hx => (by rw [h] at hx; cases hx; exact Int.le_refl _)⟩
  | y :: l, acc, q, h => by
    rw [List.foldl_cons] at h
    obtain ⟨h1, h2⟩ := bestG_min l _ q h
    have h3 : f q ≤ f y := by
      cases acc with
      | none => exact h2 y rfl
      | some z =>
        simp only [bestStep] at h2
        split at h2
        · exact h2 y rfl
        · have := h2 z rfl; omega
    refine ⟨fun x hx => ?_, fun x hx => ?_⟩
    · rcases List.mem_cons.1 hx with rfl | hx
      · exact h3
      · exact h1 x hx
    · subst hx
      simp only [bestStep] at h2
      split at h2
      · have := h2 y rfl; omega
      · exact h2 x rfl
theorem siz_int (hL0 : 1 ≤ L) (hR0 : 0 ≤ R) : ((siz L R : Nat) : Int) = (2 * L + 1) * (2 * R + 1) := by
  unfold siz wid
  rw [Int.natCast_mul, Int.toNat_of_nonneg (by omega), Int.toNat_of_nonneg (by omega)]
theorem T_all {m : Nat} (hfix : ∀ e y, T L R S N m e y = true → T L R S N (m + 1) e y = true) {x y : Int} (h : T L R S N m x y = true) : ∀ n, T L R S N n x y = true := by
  have hs : ∀ d, ∀ e z, T L R S N (m + d) e z = true → T L R S N (m + d + 1) e z = true := by
    intro d
    induction d with
    | zero => exact hfix
    | succ d ih =>
      intro e z hz
      have e1 : T L R S N (m + d + 1) = T L R S N (m + d) := by
        funext a b
        cases hb : T L R S N (m + d) a b with
        | true => exact ih a b hb
        | false =>
          cases hc : T L R S N (m + d + 1) a b with
          | false => rfl
          | true => rw [T_le hc (Nat.le_succ _)] at hb; cases hb
      have e2 : T L R S N (m + d + 1 + 1) e z = T L R S N (m + d + 1) e z := by
        have h3 : ∀ n, T L R S N (n + 1) e z = (T L R S N n e z && (ratesL R S z).any fun q => holdsB L R N e q (T L R S N n)) := fun n => rfl
        rw [h3 (m + d + 1), e1, ← h3 (m + d), e1]
      rw [show m + (d + 1) + 1 = m + d + 1 + 1 by omega, e2]
      exact hz
  have hall : ∀ d, T L R S N (m + d) x y = true := by
    intro d
    induction d with
    | zero => exact h
    | succ d ih => exact hs d x y ih
  intro n
  rcases Nat.le_total n m with hn | hn
  · exact T_le h hn
  · have := hall (n - m); rwa [show m + (n - m) = n by omega] at this
theorem esc_out {ch : List Int} {z : S59} (h : isB L R z.f0 z.f1 = false) : escF L R ch z = 0 := by unfold escF; rw [if_neg (by simp [h])]
theorem esc_safe {ch : List Int} {m : Nat} (hB : Best L R S N ch m) (hL0 : 1 ≤ L) (hR0 : 0 ≤ R) {z : S59} (ht : T L R S N m z.f0 z.f1 = true) : escF L R ch z = 2000 := by
  obtain ⟨j, hj, hi, h1, h2⟩ := hB.says.at hL0 hR0 (T_bound m ht)
  unfold escF
  rw [if_pos (T_bound m ht), hi, if_pos (h1 ht)]
theorem esc_lost {ch : List Int} {m : Nat} (hB : Best L R S N ch m) (hm : m ≤ 1500) (hL0 : 1 ≤ L) (hR0 : 0 ≤ R) {z : S59} (hb : isB L R z.f0 z.f1 = true) (ht : T L R S N m z.f0 z.f1 = false) :
    ∃ k : Nat, 1 ≤ k ∧ k ≤ m ∧ escF L R ch z = k ∧ rd ch (ix L R z.f0 z.f1) = 1000 + (k : Int) ∧ T L R S N k z.f0 z.f1 = false ∧ T L R S N (k - 1) z.f0 z.f1 = true := by
  obtain ⟨j, hj, he, hy, hi⟩ := st_of hL0 hR0 hb
  have h1 := (hB.says.2 j hj).2
  rw [he, hy] at h1
  obtain ⟨k, hk1, hk2, hk3, hk4, hk5⟩ := h1 ht
  refine ⟨k, hk2, hk1, ?_, by rw [show ix L R z.f0 z.f1 = (j : Int) from hi]; exact hk3, hk4, hk5⟩
  unfold escF
  rw [if_pos hb, hi, hk3, if_neg (by omega), wrap_small _ (by omega) (by omega)]
  omega
theorem after_mem {e q : Int} {z : S59} : z ∈ afterL N e q ↔ ∃ k : Nat, k < (2 * N + 1).toNat ∧ z = ⟨e + q + (-N + k), q⟩ := by
  unfold afterL
  rw [List.mem_map]
  constructor
  · rintro ⟨k, hk, rfl⟩; exact ⟨k, List.mem_range.1 hk, rfl⟩
  · rintro ⟨k, hk, rfl⟩; exact ⟨k, List.mem_range.2 hk, rfl⟩
/-- From a lost state any allowed rate is answered so that the next state is out, or lost earlier. -/
theorem force_step {ch : List Int} {m : Nat} (hB : Best L R S N ch m) (hm : m ≤ 1500) (hL0 : 1 ≤ L) (hR0 : 0 ≤ R) (hN0 : 0 ≤ N) {e r q : Int} {k : Nat} (hk : 1 ≤ k) (hkm : k ≤ m) (ht0 : T L R S N k e r = false) (ht1 : T L R S N (k - 1) e r = true)
    (hq : -R ≤ q ∧ q ≤ R ∧ q ≤ r + S ∧ r - S ≤ q) : ∃ z, bestOf (escF L R ch) (afterL N e q) = some z ∧ (∃ d, -N ≤ d ∧ d ≤ N ∧ z = ⟨e + q + d, q⟩) ∧
      (isB L R z.f0 z.f1 = false ∨ ∃ k', 1 ≤ k' ∧ k' < k ∧ isB L R z.f0 z.f1 = true ∧ T L R S N k' z.f0 z.f1 = false ∧ T L R S N (k' - 1) z.f0 z.f1 = true) := by
  obtain ⟨k, rfl⟩ : ∃ j, k = j + 1 := ⟨k - 1, by omega⟩
  rw [Nat.add_sub_cancel] at ht1
  have hne : bestOf (escF L R ch) (afterL N e q) ≠ none := by
    rw [ne_eq, bestOf_none]
    intro h0
    have := congrArg List.length h0
    simp [afterL] at this
    omega
  obtain ⟨z, hz⟩ := Option.ne_none_iff_exists'.1 hne
  have hmin := (bestG_min _ _ _ hz).1
  obtain ⟨i, hi, hzi⟩ := after_mem.1 (bestOf_mem hz)
  refine ⟨z, hz, ⟨-N + i, by omega, by omega, hzi⟩, ?_⟩
  have hbad : ∃ d : Int, -N ≤ d ∧ d ≤ N ∧ T L R S N k (e + q + d) q = false := by
    refine Classical.byContradiction fun hn => ?_
    have := (T_succ_iff hN0 (L := L) (R := R) (S := S) (e := e) (r := r) (n := k)).2 ⟨ht1, q, hq, fun d h1 h2 => by
      cases hc : T L R S N k (e + q + d) q with
      | true => rfl
      | false => exact absurd ⟨d, h1, h2, hc⟩ hn⟩
    rw [this] at ht0; cases ht0
  obtain ⟨d, hd1, hd2, hd⟩ := hbad
  have hym : (⟨e + q + d, q⟩ : S59) ∈ afterL N e q := after_mem.2 ⟨(d + N).toNat, by omega, by rw [Int.toNat_of_nonneg (by omega)]; congr 1; omega⟩
  have hle := hmin _ hym
  have hyk : escF L R ch ⟨e + q + d, q⟩ ≤ k := by
    cases hb : isB L R (e + q + d) q with
    | false => rw [esc_out (z := ⟨e + q + d, q⟩) hb]; omega
    | true =>
      have htm : T L R S N m (e + q + d) q = false := by
        cases hc : T L R S N m (e + q + d) q with
        | false => rfl
        | true => rw [T_all hB.fix hc k] at hd; cases hd
      obtain ⟨k2, h1, h2, h3, _, h4, h5⟩ := esc_lost hB hm hL0 hR0 (z := ⟨e + q + d, q⟩) hb htm
      rw [h3]
      have : ¬ k ≤ k2 - 1 := fun h => by rw [T_le h5 h] at hd; cases hd
      omega
  cases hb : isB L R z.f0 z.f1 with
  | false => exact .inl rfl
  | true =>
    refine .inr ?_
    cases hc : T L R S N m z.f0 z.f1 with
    | true => rw [esc_safe hB hL0 hR0 hc] at hle; omega
    | false =>
      obtain ⟨k2, h1, h2, h3, _, h4, h5⟩ := esc_lost hB hm hL0 hR0 hb hc
      rw [h3] at hle
      exact ⟨k2, h1, by omega, rfl, h4, h5⟩
end
end Go.Proofs.Ytcaekmalkbaldaa.M
