/- 'Force': the reference's answers are the program's, in plain Lean. -/
import Derived.Test.YtcaekmalkbaldaaFa
import Derived.Test.YtcaekmalkbaldaaRc
import Derived.Test.YtcaekmalkbaldaaM19
namespace Go.Proofs.Ytcaekmalkbaldaa.M
open Go.RowKit Go.Shelf Go.Proofs.YtcaekmalkbaldaaW.PrintWords Go.Proofs.YtcaekmalkbaldaaW.PrintLast Go.Proofs.YtcaekmalkbaldaaW.PrintMore
set_option linter.unusedVariables false
set_option linter.unusedSimpArgs false
section
variable {L R S N : Int}
theorem foldl_stay {α : Type} {f : α → Int} {z : α} : ∀ (l : List α), (∀ x ∈ l, f z ≤ f x) → l.foldl (bestStep f) (some z) = some z
  | [], _ => rfl
  | y :: l, h => by
    rw [List.foldl_cons]
    have h1 := h y List.mem_cons_self
    simp only [bestStep]
    rw [if_neg (by omega)]
    exact foldl_stay l fun x hx => h x (List.mem_cons_of_mem _ hx)
/-- The state that follows with disturbance number i. -/
abbrev sa (N e q : Int) (i : Nat) : S59 := ⟨e + q + (-N + (i : Int)), q⟩
theorem afterL_len (N e q : Int) : (afterL N e q).length = (2 * N + 1).toNat := by simp [afterL]
theorem afterL_at (N e q : Int) (i : Nat) (h : i < (afterL N e q).length) : (afterL N e q)[i] = sa N e q i := by simp [afterL]
theorem esc_nonneg {ch : List Int} {m : Nat} (hB : Best L R S N ch m) (hm : m ≤ 1500) (hL0 : 1 ≤ L) (hR0 : 0 ≤ R) (z : S59) : 0 ≤ escF L R ch z ∧ (isB L R z.f0 z.f1 = true → 1 ≤ escF L R ch z) := by
  cases hb : isB L R z.f0 z.f1 with
  | false => rw [esc_out hb]; exact ⟨Int.le_refl _, fun h => by cases h⟩
  | true =>
    cases hc : T L R S N m z.f0 z.f1 with
    | true => rw [esc_safe hB hL0 hR0 hc]; omega
    | false => obtain ⟨k, h1, h2, h3, _⟩ := esc_lost hB hm hL0 hR0 hb hc; rw [h3]; omega
theorem ans_out {ch : List Int} {m : Nat} (hB : Best L R S N ch m) (hm : m ≤ 1500) (hp : rightB L R S N = true) {e q : Int} (he : -1000 ≤ e ∧ e ≤ 1000) (hq : -1000 ≤ q ∧ q ≤ 1000) {z : S59} (hz : bestOf (escF L R ch) (afterL N e q) = some z) :
    ∀ (n i k : Nat), i + n = (2 * N + 1).toNat → n < k → (∀ i', i' < i → isB L R (sa N e q i').f0 q = true) → (∃ i', i ≤ i' ∧ i' < (2 * N + 1).toNat ∧ isB L R (sa N e q i').f0 q = false) →
      meridianref06_answer.l0 k ch e q (-N + (i : Int)) L R S N = some (z.f0 - e - q)
  | 0, i, k, hi, hk, hall, hex => by obtain ⟨i', h1, h2, _⟩ := hex; omega
  | n + 1, i, k, hi, hk, hall, hex => by
    obtain ⟨k, rfl⟩ : ∃ j, k = j + 1 := ⟨k - 1, by omega⟩
    have h' := rightB_iff.1 hp
    unfold meridianref06_answer.l0
    rw [if_pos (by omega), wrap_small (e + q) (by omega) (by omega), wrap_small (e + q + (-N + (i : Int))) (by omega) (by omega), ref_is_f (by omega) (by omega) (by omega) (by omega), Option.bind_some]
    by_cases hb : isB L R (e + q + (-N + (i : Int))) q = true
    · rw [if_pos hb, wrap_small (-N + (i : Int) + 1) (by omega) (by omega), show -N + (i : Int) + 1 = -N + ((i + 1 : Nat) : Int) by omega]
      refine ans_out hB hm hp he hq hz n (i + 1) k (by omega) (by omega) (fun i' hi' => ?_) ?_
      · rcases Nat.lt_succ_iff_lt_or_eq.1 hi' with h | rfl
        · exact hall i' h
        · exact hb
      · obtain ⟨i', h1, h2, h3⟩ := hex
        refine ⟨i', ?_, h2, h3⟩
        rcases Nat.lt_or_ge i i' with h | h
        · exact h
        · obtain rfl : i = i' := by omega
          have h3' : isB L R (e + q + (-N + (i : Int))) q = false := h3
          rw [h3'] at hb; cases hb
    · rw [if_neg hb]
      have hb' : isB L R (sa N e q i).f0 (sa N e q i).f1 = false := by simpa using hb
      have hil : i < (afterL N e q).length := by rw [afterL_len]; omega
      have h1 : bestOf (escF L R ch) (afterL N e q) = ((afterL N e q).drop (i + 1)).foldl (bestStep (escF L R ch)) (bestOf (escF L R ch) ((afterL N e q).take (i + 1))) := by
        unfold bestOf
        rw [← List.foldl_append, List.take_append_drop]
      have h2 : bestOf (escF L R ch) ((afterL N e q).take (i + 1)) = some (sa N e q i) := by
        rw [take_snoc _ _ hil, bestOf_snoc, afterL_at]
        cases hbo : bestOf (escF L R ch) ((afterL N e q).take i) with
        | none => rfl
        | some w =>
          have hw := bestOf_mem hbo
          obtain ⟨i', hi', hwe⟩ := List.getElem_of_mem hw
          rw [List.length_take] at hi'
          rw [List.getElem_take, afterL_at] at hwe
          simp only [bestStep]
          rw [if_pos]
          rw [esc_out hb']
          have := (esc_nonneg hB hm (by omega) (by omega) w).2 (by rw [← hwe]; exact hall i' (by omega))
          omega
      rw [h1, h2, foldl_stay _ (fun x hx => by rw [esc_out hb']; exact (esc_nonneg hB hm (by omega) (by omega) x).1)] at hz
      cases hz
      congr 1
      simp only
      omega
theorem ans_in (hp : rightB L R S N = true) {ch : List Int} {e q : Int} (he : -1000 ≤ e ∧ e ≤ 1000) (hq : -1000 ≤ q ∧ q ≤ 1000) :
    ∀ (n i k : Nat), i + n = (2 * N + 1).toNat → (∀ i', i ≤ i' → i' < (2 * N + 1).toNat → isB L R (sa N e q i').f0 q = true) →
      meridianref06_answer.l0 (k + n + 1) ch e q (-N + (i : Int)) L R S N = meridianref06_answer.l1 k ch e q 0 0 (-N) L R S N
  | 0, i, k, hi, hall => by
    have h' := rightB_iff.1 hp
    rw [Nat.add_zero, meridianref06_answer.l0, if_neg (by omega), wrap_small (-N) (by omega) (by omega)]
  | n + 1, i, k, hi, hall => by
    have h' := rightB_iff.1 hp
    have hb : isB L R (e + q + (-N + (i : Int))) q = true := hall i (Nat.le_refl _) (by omega)
    rw [show k + (n + 1) + 1 = (k + n + 1) + 1 by omega, meridianref06_answer.l0, if_pos (by omega), wrap_small (e + q) (by omega) (by omega), wrap_small (e + q + (-N + (i : Int))) (by omega) (by omega), ref_is_f (by omega) (by omega) (by omega) (by omega), Option.bind_some,
      if_pos hb, wrap_small (-N + (i : Int) + 1) (by omega) (by omega), show -N + (i : Int) + 1 = -N + ((i + 1 : Nat) : Int) by omega]
    exact ans_in hp he hq n (i + 1) k (by omega) (fun i' h1 h2 => hall i' (by omega) h2)
/-- What the second loop of the reference's answer has found. -/
def Found (L R S N : Int) (ch : List Int) (m : Nat) (e q : Int) (i : Nat) (b l : Int) : Prop :=
  (l = 0 ∧ b = 0 ∧ ∀ i', i' < i → T L R S N m (sa N e q i').f0 q = true) ∨
  (∃ y : S59, bestOf (escF L R ch) ((afterL N e q).take i) = some y ∧ isB L R y.f0 y.f1 = true ∧ T L R S N m y.f0 y.f1 = false ∧ b = y.f0 - e - q ∧ l = rd ch (ix L R y.f0 y.f1))
theorem ans_l1 {ch : List Int} {m : Nat} (hB : Best L R S N ch m) (hm : m ≤ 1500) (hp : rightB L R S N = true) {e q : Int} (he : -1000 ≤ e ∧ e ≤ 1000) (hq : -1000 ≤ q ∧ q ≤ 1000) {z : S59} (hz : bestOf (escF L R ch) (afterL N e q) = some z)
    (hzl : T L R S N m z.f0 z.f1 = false) (hall : ∀ i', i' < (2 * N + 1).toNat → isB L R (sa N e q i').f0 q = true) :
    ∀ (n i k : Nat) (b l : Int), i + n = (2 * N + 1).toNat → n < k → Found L R S N ch m e q i b l →
      meridianref06_answer.l1 k ch e q b l (-N + (i : Int)) L R S N = some (z.f0 - e - q)
  | 0, i, k, b, l, hi, hk, hf => by
    obtain ⟨k, rfl⟩ : ∃ j, k = j + 1 := ⟨k - 1, by omega⟩
    have h' := rightB_iff.1 hp
    unfold meridianref06_answer.l1
    rw [if_neg (by omega)]
    rcases hf with ⟨_, _, h⟩ | ⟨y, h1, _, _, h2, _⟩
    · obtain ⟨i', hi', hze⟩ := after_mem.1 (bestOf_mem hz)
      have := h i' (by omega)
      rw [hze] at hzl
      rw [hzl] at this; cases this
    · rw [List.take_of_length_le (by rw [afterL_len]; omega), hz] at h1
      cases h1
      rw [h2]
  | n + 1, i, k, b, l, hi, hk, hf => by
    obtain ⟨k, rfl⟩ : ∃ j, k = j + 1 := ⟨k - 1, by omega⟩
    have h' := rightB_iff.1 hp
    have hb : isB L R (e + q + (-N + (i : Int))) q = true := hall i (by omega)
    have hil : i < (afterL N e q).length := by rw [afterL_len]; omega
    have htk : bestOf (escF L R ch) ((afterL N e q).take (i + 1)) = bestStep (escF L R ch) (bestOf (escF L R ch) ((afterL N e q).take i)) (sa N e q i) := by rw [take_snoc _ _ hil, bestOf_snoc, afterL_at]
    obtain ⟨j, hj, hij, _, _⟩ := hB.says.at (show 1 ≤ L by omega) (show 0 ≤ R by omega) hb
    have hix : ix L R (sa N e q i).f0 (sa N e q i).f1 = (j : Int) := hij
    unfold meridianref06_answer.l1
    rw [if_pos (by omega), wrap_small (e + q) (by omega) (by omega), wrap_small (e + q + (-N + (i : Int))) (by omega) (by omega), ref_index_f (by omega) (by omega) (by omega) (by omega) hb, Option.bind_some, hij, if_pos (by omega), if_pos (by omega),
      wrap_small (-N + (i : Int) + 1) (by omega) (by omega), show -N + (i : Int) + 1 = -N + ((i + 1 : Nat) : Int) by omega]
    cases hc : T L R S N m (sa N e q i).f0 (sa N e q i).f1 with
    | true =>
      have hes := esc_safe hB (by omega) (by omega) hc
      obtain ⟨j2, hj2, hij2, hlt, _⟩ := hB.says.at (show 1 ≤ L by omega) (show 0 ≤ R by omega) hb
      obtain rfl : j2 = j := by have : (j2 : Int) = j := hij2.symm.trans hij; omega
      have hlt' := hlt hc
      rw [if_neg (by omega)]
      refine ans_l1 hB hm hp he hq hz hzl hall n (i + 1) k b l (by omega) (by omega) ?_
      rcases hf with ⟨h1, h2, h3⟩ | ⟨y, h1, h2, h3, h4, h5⟩
      · refine .inl ⟨h1, h2, fun i' hi' => ?_⟩
        rcases Nat.lt_succ_iff_lt_or_eq.1 hi' with h | rfl
        · exact h3 i' h
        · exact hc
      · refine .inr ⟨y, ?_, h2, h3, h4, h5⟩
        obtain ⟨ky, _, g2, g3, _⟩ := esc_lost hB hm (by omega) (by omega) h2 h3
        rw [htk, h1]
        simp only [bestStep]
        rw [if_neg (by rw [hes, g3]; omega)]
    | false =>
      obtain ⟨ki, g1, g2, g3, g4, _⟩ := esc_lost hB hm (by omega) (by omega) (z := sa N e q i) hb hc
      rw [hix] at g4
      rw [if_pos (by omega)]
      rcases hf with ⟨h1, h2, h3⟩ | ⟨y, h1, h2, h3, h4, h5⟩
      · rw [if_pos h1]
        refine ans_l1 hB hm hp he hq hz hzl hall n (i + 1) k _ _ (by omega) (by omega) (.inr ⟨sa N e q i, ?_, hb, hc, by simp only; omega, by rw [hix]⟩)
        rw [htk]
        cases hbo : bestOf (escF L R ch) ((afterL N e q).take i) with
        | none => rfl
        | some w =>
          obtain ⟨i', hi', hwe⟩ := List.getElem_of_mem (bestOf_mem hbo)
          rw [List.length_take] at hi'
          rw [List.getElem_take, afterL_at] at hwe
          have hw := h3 i' (by omega)
          have hws := esc_safe hB (show 1 ≤ L by omega) (show 0 ≤ R by omega) (z := sa N e q i') hw
          simp only [bestStep]
          rw [if_pos (by rw [g3, ← hwe, hws]; omega)]
      · obtain ⟨ky, k1, k2, k3, k4, _⟩ := esc_lost hB hm (by omega) (by omega) h2 h3
        rw [if_neg (by rw [h5, k4]; omega)]
        by_cases hlt : rd ch (j : Int) < l
        · rw [if_pos hlt]
          refine ans_l1 hB hm hp he hq hz hzl hall n (i + 1) k _ _ (by omega) (by omega) (.inr ⟨sa N e q i, ?_, hb, hc, by simp only; omega, by rw [hix]⟩)
          rw [htk, h1]
          simp only [bestStep]
          rw [if_pos (by rw [g3, k3]; rw [h5, k4] at hlt; omega)]
        · rw [if_neg hlt]
          refine ans_l1 hB hm hp he hq hz hzl hall n (i + 1) k _ _ (by omega) (by omega) (.inr ⟨y, ?_, h2, h3, h4, h5⟩)
          rw [htk, h1]
          simp only [bestStep]
          rw [if_neg (by rw [g3, k3]; rw [h5, k4] at hlt; omega)]
theorem answer_f {ch : List Int} {m : Nat} (hB : Best L R S N ch m) (hm : m ≤ 1500) (hp : rightB L R S N = true) {e q : Int} (he : -1000 ≤ e ∧ e ≤ 1000) (hq : -1000 ≤ q ∧ q ≤ 1000) {z : S59} (hz : bestOf (escF L R ch) (afterL N e q) = some z)
    (hzl : isB L R z.f0 z.f1 = false ∨ T L R S N m z.f0 z.f1 = false) (k : Nat) (hk : 100 ≤ k) : meridianref06_answer.f k L R S N ch e q = some (z.f0 - e - q) := by
  have h' := rightB_iff.1 hp
  unfold meridianref06_answer.f
  rw [wrap_small (-N) (by omega) (by omega), show -N = -N + ((0 : Nat) : Int) by omega]
  by_cases hex : ∃ i', 0 ≤ i' ∧ i' < (2 * N + 1).toNat ∧ isB L R (sa N e q i').f0 q = false
  · exact ans_out hB hm hp he hq hz (2 * N + 1).toNat 0 k (by omega) (by omega) (fun i' h => by omega) hex
  · have hall : ∀ i', i' < (2 * N + 1).toNat → isB L R (sa N e q i').f0 q = true := fun i' h => by
      cases hb : isB L R (sa N e q i').f0 q with
      | true => rfl
      | false => exact absurd ⟨i', Nat.zero_le _, h, hb⟩ hex
    have hzb : isB L R z.f0 z.f1 = true := by
      obtain ⟨i', hi', hze⟩ := after_mem.1 (bestOf_mem hz)
      rw [hze]
      exact hall i' hi'
    have hzl2 : T L R S N m z.f0 z.f1 = false := hzl.resolve_left (by rw [hzb]; simp)
    have h1 := ans_in hp (ch := ch) he hq (2 * N + 1).toNat 0 (k - (2 * N + 1).toNat - 1) (by omega) (fun i' _ h => hall i' h)
    rw [show k - (2 * N + 1).toNat - 1 + (2 * N + 1).toNat + 1 = k by omega] at h1
    rw [h1]
    have h2 := ans_l1 hB hm hp he hq hz hzl2 hall (2 * N + 1).toNat 0 (k - (2 * N + 1).toNat - 1) 0 0 (by omega) (by omega) (.inl ⟨rfl, rfl, fun i' h => by omega⟩)
    simpa using h2
end
end Go.Proofs.Ytcaekmalkbaldaa.M
