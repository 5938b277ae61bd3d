/- What the reference's functions of the steering chapter answer, in the words of the program's chart. -/
import Derived.Test.YtcaekmalkbaldaaPm
import Derived.Test.YtcaekmalkbaldaaM9
namespace Go.Proofs.Ytcaekmalkbaldaa.M
set_option linter.unusedVariables false
set_option linter.unusedSimpArgs false
open Go.RowKit Go.Shelf Go.Proofs.YtcaekmalkbaldaaW.PrintWords Go.Proofs.YtcaekmalkbaldaaW.PrintLast Go.Proofs.YtcaekmalkbaldaaW.PrintMore
set_option linter.unusedVariables false
section
variable {L R S N : Int}
theorem ref_is_f (hL0 : -1000 ≤ L) (hL : L ≤ 1000) (hR0 : -1000 ≤ R) (hR : R ≤ 1000) (x y : Int) : meridianref06_is.f L R S N x y = some (isB L R x y) := by
  unfold meridianref06_is.f isB
  rw [wrap_small (-L) (by omega) (by omega), wrap_small (-R) (by omega) (by omega)]
  by_cases h1 : -L ≤ x <;> by_cases h2 : x ≤ L <;> by_cases h3 : -R ≤ y <;> by_cases h4 : y ≤ R <;> simp [h1, h2, h3, h4]
theorem ref_index_f (hL0 : 1 ≤ L) (hL : L ≤ 40) (hR0 : 0 ≤ R) (hR : R ≤ 12) {x y : Int} (hb : isB L R x y = true) : meridianref06_index.f L R S N x y = some ((x + L) * (2 * R + 1) + y + R) := by
  have h2 := isB_iff.1 hb
  have h3 := idx_bound hL hR hL0 hR0 hb
  unfold meridianref06_index.f
  have e1 : wrap64 (L + x) = x + L := by rw [wrap_small _ (by omega) (by omega)]; omega
  have e2 : wrap64 (wrap64 (R + R) + 1) = 2 * R + 1 := by rw [wrap_small (R + R) (by omega) (by omega), wrap_small _ (by omega) (by omega)]; omega
  rw [e1, e2]
  clear e1 e2
  generalize (x + L) * (2 * R + 1) = z at h3 ⊢
  rw [wrap_small z (by omega) (by omega), wrap_small (z + R) (by omega) (by omega), wrap_small (z + R + y) (by omega) (by omega)]
  congr 1; omega
theorem ref_allowed_f (hR0 : 0 ≤ R) (hR : R ≤ 12) (hS0 : 1 ≤ S) (hS : S ≤ 24) (r q : Int) (hr0 : -R ≤ r) (hr : r ≤ R) : meridianref06_allowed.f L R S N r q = some ((ratesL R S r).contains q) := by
  unfold meridianref06_allowed.f
  have hc : (ratesL R S r).contains q = (decide (-R ≤ q) && decide (q ≤ R) && decide (q ≤ r + S) && decide (r - S ≤ q)) := by
    rw [Bool.eq_iff_iff, List.contains_iff_mem, mem_rates]
    simp only [Bool.and_eq_true, decide_eq_true_eq, and_assoc]
  rw [hc, wrap_small (-R) (by omega) (by omega)]
  by_cases h1 : -R ≤ q
  · by_cases h2 : q ≤ R
    · have w1 : wrap64 (q - r) = q - r := wrap_small _ (by omega) (by omega)
      have w2 : wrap64 (r - q) = r - q := wrap_small _ (by omega) (by omega)
      rw [w1, w2]
      clear w1 w2 hc
      by_cases h3 : q - r ≤ S <;> by_cases h4 : r - q ≤ S
      · simp [h1, h2, h3, h4, show q ≤ r + S by omega, show r - S ≤ q by omega]
      · simp [h1, h2, h3, h4, show q ≤ r + S by omega, show ¬ (r - S ≤ q) by omega]
      · simp [h1, h2, h3, h4, show ¬ (q ≤ r + S) by omega]
      · simp [h1, h2, h3, h4, show ¬ (q ≤ r + S) by omega]
    · simp [h1, h2]
  · simp [h1]
/-- Which states are not lost, by a list of marks. -/
def goodL (L R : Int) (lost : List Bool) (x y : Int) : Bool := !rdOf false lost ((x + L) * (2 * R + 1) + y + R)
theorem ref_keeps_l0 (hL0 : 1 ≤ L) (hL : L ≤ 40) (hR0 : 0 ≤ R) (hR : R ≤ 12) (hN0 : 0 ≤ N) (hN : N ≤ 12) (lost : List Bool) (hl : lost.length = siz L R) (e q : Int) (he0 : -L ≤ e) (he : e ≤ L) (hq0 : -R ≤ q) (hq : q ≤ R) :
    ∀ (j : Nat) (d : Int), -N ≤ d → (N + 1 - d).toNat = j → ∀ k, j < k → meridianref06_keeps.l0 k lost e q d L R S N = some ((List.range j).all fun i => isB L R (e + q + (d + i)) q && goodL L R lost (e + q + (d + i)) q)
  | 0, d, hd0, hj, k, hk => by
    obtain ⟨k, rfl⟩ : ∃ j, k = j + 1 := ⟨k - 1, by omega⟩
    unfold meridianref06_keeps.l0
    rw [if_neg (by omega)]; rfl
  | j + 1, d, hd0, hj, k, hk => by
    obtain ⟨k, rfl⟩ : ∃ j, k = j + 1 := ⟨k - 1, by omega⟩
    have ih := ref_keeps_l0 hL0 hL hR0 hR hN0 hN lost hl e q he0 he hq0 hq j (d + 1) (by omega) (by omega) k (by omega)
    unfold meridianref06_keeps.l0
    rw [if_pos (by omega), wrap_small (e + q) (by omega) (by omega), wrap_small (e + q + d) (by omega) (by omega), ref_is_f (by omega) (by omega) (by omega) (by omega), wrap_small (d + 1) (by omega) (by omega)]
    simp only [Option.bind_some]
    have hall : ((List.range (j + 1)).all fun i => isB L R (e + q + (d + i)) q && goodL L R lost (e + q + (d + i)) q) = ((isB L R (e + q + d) q && goodL L R lost (e + q + d) q) && ((List.range j).all fun i => isB L R (e + q + (d + 1 + i)) q && goodL L R lost (e + q + (d + 1 + i)) q)) := by
      rw [List.range_succ_eq_map, List.all_cons, List.all_map]
      congr 1
      · simp
      · congr 1
        funext i
        simp only [Function.comp]
        rw [show d + ((i.succ : Nat) : Int) = d + 1 + i by omega]
    rw [hall]
    cases hb : isB L R (e + q + d) q
    · simp
    · obtain ⟨i, hi, ei⟩ := idx_lt hL0 hR0 hb
      rw [if_pos rfl, ref_index_f hL0 hL hR0 hR hb]
      simp only [Option.bind_some]
      rw [if_pos (by omega), if_pos (by omega)]
      unfold goodL at ih ⊢
      cases hg : rdOf false lost ((e + q + d + L) * (2 * R + 1) + q + R)
      · rw [if_neg (by simp), ih]; simp
      · rw [if_pos rfl]; simp
theorem ref_keeps_f (hL0 : 1 ≤ L) (hL : L ≤ 40) (hR0 : 0 ≤ R) (hR : R ≤ 12) (hN0 : 0 ≤ N) (hN : N ≤ 12) (lost : List Bool) (hl : lost.length = siz L R) (e q : Int) (he0 : -L ≤ e) (he : e ≤ L) (hq0 : -R ≤ q) (hq : q ≤ R) :
    ∀ k, 30 ≤ k → meridianref06_keeps.f k L R S N lost e q = some (holdsB L R N e q (goodL L R lost)) := by
  intro k hk
  unfold meridianref06_keeps.f
  rw [wrap_small (-N) (by omega) (by omega), ref_keeps_l0 hL0 hL hR0 hR hN0 hN lost hl e q he0 he hq0 hq _ (-N) (by omega) rfl k (by omega)]
  unfold holdsB okB
  rw [show (N + 1 - -N).toNat = (2 * N + 1).toNat by omega]

/-! ### The control -/
theorem nearF_eq {q : Int} (h0 : -12 ≤ q) (h1 : q ≤ 12) : nearF q = if 0 ≤ q then 2 * q else -2 * q - 1 := by
  unfold nearF
  rw [wrap_small (2 * q) (by omega) (by omega), wrap_small (-2 * q) (by omega) (by omega), wrap_small (-2 * q - 1) (by omega) (by omega)]
  unfold mx
  split <;> split <;> omega
theorem bestOf_min {f : Int → Int} : ∀ (l : List Int) (acc : Option Int) (q : Int), l.foldl (bestStep f) acc = some q → (∀ x ∈ l, f q ≤ f x) ∧ (∀ x, acc = some x → f q ≤ f x)
  | [], acc, q, h => ⟨fun x hx => (by cases hx), fun x hx => by rw [hx] at h; cases h; exact Int.le_refl _⟩
  | y :: l, acc, q, h => by
    rw [List.foldl_cons] at h
    obtain ⟨h1, h2⟩ := bestOf_min l _ q h
    cases acc with
    | none =>
      have h3 := h2 y rfl
      exact ⟨fun x hx => by rcases List.mem_cons.1 hx with rfl | hx; exact h3; exact h1 x hx, fun x hx => by cases hx⟩
    | some z =>
      unfold bestStep at h2
      by_cases hc : f y < f z
      · have h3 := h2 y (by simp [hc])
        exact ⟨fun x hx => by rcases List.mem_cons.1 hx with rfl | hx; exact h3; exact h1 x hx, fun x hx => by cases hx; omega⟩
      · have h3 := h2 z (by simp [hc])
        exact ⟨fun x hx => by rcases List.mem_cons.1 hx with rfl | hx; omega; exact h1 x hx, fun x hx => by cases hx; exact h3⟩
/-- The rate to take; 1000 if there is none. -/
def ctl (l : List Int) : Int := match bestOf nearF l with | some q => q | none => 1000
theorem ctl_nil : ctl [] = 1000 := rfl
theorem ctl_eq {l : List Int} {q : Int} (hl : ∀ x ∈ l, -12 ≤ x ∧ x ≤ 12) (hq : q ∈ l) (hm : ∀ x ∈ l, nearF q ≤ nearF x) : ctl l = q := by
  unfold ctl
  cases hb : bestOf nearF l with
  | none => rw [bestOf_none.1 hb] at hq; cases hq
  | some z =>
    have h1 := (bestOf_min l none z hb).1 q hq
    have hz := bestOf_mem hb
    have h2 := hm z hz
    have hz' := hl z hz
    have hq' := hl q hq
    rw [nearF_eq hz'.1 hz'.2, nearF_eq hq'.1 hq'.2] at h1 h2
    simp only
    split at h1 <;> split at h1 <;> omega
theorem ref_control_l0 (hL0 : 1 ≤ L) (hL : L ≤ 40) (hR0 : 0 ≤ R) (hR : R ≤ 12) (hS0 : 1 ≤ S) (hS : S ≤ 24) (hN0 : 0 ≤ N) (hN : N ≤ 12) (lost : List Bool) (hl : lost.length = siz L R) (e r : Int) (he0 : -L ≤ e) (he : e ≤ L) (hr0 : -R ≤ r) (hr : r ≤ R)
    (kp : List Int) (hkp : kp = (ratesL R S r).filter fun q => holdsB L R N e q (goodL L R lost)) :
    ∀ (m : Nat) (n : Int), 0 ≤ n → (R + 1 - n).toNat = m → (∀ q ∈ kp, q ≤ -n ∨ n ≤ q) → ∀ k, 2 * m + 40 ≤ k → meridianref06_control.l0 k lost e r n L R S N = some (ctl kp)
  | 0, n, hn0, hm, hinv, k, hk => by
    obtain ⟨k, rfl⟩ : ∃ j, k = j + 1 := ⟨k - 1, by omega⟩
    have : kp = [] := by
      refine List.eq_nil_iff_forall_not_mem.2 fun q hq => ?_
      have h1 := hinv q hq
      rw [hkp, List.mem_filter, mem_rates] at hq
      omega
    unfold meridianref06_control.l0
    rw [if_neg (by omega), this]; rfl
  | m + 1, n, hn0, hm, hinv, k, hk => by
    obtain ⟨k, rfl⟩ : ∃ j, k = j + 1 + 1 := ⟨k - 2, by omega⟩
    have hb : ∀ x ∈ kp, -12 ≤ x ∧ x ≤ 12 := fun x hx => by rw [hkp, List.mem_filter, mem_rates] at hx; omega
    have hmem : ∀ q, q ∈ kp ↔ ((ratesL R S r).contains q && holdsB L R N e q (goodL L R lost)) = true := fun q => by
      rw [hkp, List.mem_filter, Bool.and_eq_true, List.contains_iff_mem]
    have hneg : -n ∈ kp → ctl kp = -n := fun h => by
      refine ctl_eq hb h fun x hx => ?_
      have h1 := hinv x hx
      have h2 := hb x hx
      have h3 := hb _ h
      rw [nearF_eq h2.1 h2.2, nearF_eq h3.1 h3.2]
      split <;> split <;> omega
    have hpos : -n ∉ kp → n ∈ kp → ctl kp = n := fun h0 h => by
      refine ctl_eq hb h fun x hx => ?_
      have h1 := hinv x hx
      have h2 := hb x hx
      have h3 := hb _ h
      have h4 : x ≠ -n := fun e => h0 (e ▸ hx)
      rw [nearF_eq h2.1 h2.2, nearF_eq h3.1 h3.2]
      split <;> split <;> omega
    have hnext : -n ∉ kp → n ∉ kp → meridianref06_control.l0 k lost e r (n + 1) L R S N = some (ctl kp) := fun h0 h1 =>
      ref_control_l0 hL0 hL hR0 hR hS0 hS hN0 hN lost hl e r he0 he hr0 hr kp hkp m (n + 1) (by omega) (by omega) (fun q hq => by
        have h2 := hinv q hq
        have h3 : q ≠ -n := fun e => h0 (e ▸ hq)
        have h4 : q ≠ n := fun e => h1 (e ▸ hq)
        omega) k (by omega)
    have hj1 : ∀ b : Bool, b = decide (-n ∈ kp) → meridianref06_control.j1 (k + 1) lost e r n b L R S N = some (ctl kp) := by
      intro b hb1
      unfold meridianref06_control.j1
      cases b with
      | true =>
        have h0 : -n ∈ kp := of_decide_eq_true hb1.symm
        rw [if_pos rfl, wrap_small (-n) (by omega) (by omega), hneg h0]
      | false =>
        have h0 : -n ∉ kp := of_decide_eq_false hb1.symm
        rw [if_neg (by simp), ref_allowed_f hR0 hR hS0 hS r n hr0 hr, wrap_small (n + 1) (by omega) (by omega)]
        simp only [Option.bind_some]
        cases hc : (ratesL R S r).contains n
        · have h1 : n ∉ kp := fun h => by rw [hmem, hc] at h; cases h
          rw [if_neg (by simp)]
          exact hnext h0 h1
        · rw [if_pos rfl, ref_keeps_f hL0 hL hR0 hR hN0 hN lost hl e n he0 he (by omega) (by omega) k (by omega)]
          simp only [Option.bind_some]
          cases hh : holdsB L R N e n (goodL L R lost)
          · have h1 : n ∉ kp := fun h => by rw [hmem, hh] at h; simp at h
            rw [if_neg (by simp)]
            exact hnext h0 h1
          · have h1 : n ∈ kp := by rw [hmem, hc, hh]; rfl
            rw [if_pos rfl, hpos h0 h1]
    unfold meridianref06_control.l0
    rw [if_pos (by omega), wrap_small (-n) (by omega) (by omega), ref_allowed_f hR0 hR hS0 hS r (-n) hr0 hr]
    simp only [Option.bind_some]
    cases hc : (ratesL R S r).contains (-n)
    · rw [if_neg (by simp)]
      exact hj1 false (by rw [eq_comm, decide_eq_false_iff_not]; exact fun h => by rw [hmem, hc] at h; cases h)
    · rw [if_pos rfl, ref_keeps_f hL0 hL hR0 hR hN0 hN lost hl e (-n) he0 he (by omega) (by omega) (k + 1) (by omega)]
      simp only [Option.bind_some]
      refine hj1 _ ?_
      rw [Bool.eq_iff_iff, decide_eq_true_iff, hmem, hc, Bool.true_and]
theorem ref_control_f (hL0 : 1 ≤ L) (hL : L ≤ 40) (hR0 : 0 ≤ R) (hR : R ≤ 12) (hS0 : 1 ≤ S) (hS : S ≤ 24) (hN0 : 0 ≤ N) (hN : N ≤ 12) (lost : List Bool) (hl : lost.length = siz L R) (e r : Int) (he0 : -L ≤ e) (he : e ≤ L) (hr0 : -R ≤ r) (hr : r ≤ R) :
    ∀ k, 80 ≤ k → meridianref06_control.f k L R S N lost e r = some (ctl ((ratesL R S r).filter fun q => holdsB L R N e q (goodL L R lost))) := by
  intro k hk
  unfold meridianref06_control.f
  exact ref_control_l0 hL0 hL hR0 hR hS0 hS hN0 hN lost hl e r he0 he hr0 hr _ rfl _ 0 (by omega) rfl (fun q _ => by omega) k (by omega)
end
end Go.Proofs.Ytcaekmalkbaldaa.M
