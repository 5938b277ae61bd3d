/- What holds of what is shown and resolved. -/
import Derived.OwnWalk
import Derived.Deep.RegionHeld3
import Derived.Test.YtjgnadighdbjlaaDh
namespace Go.Proofs.Ytjgnadighdbjlaa.C
open Go.RowKit Go.Shelf Go.Maps Go.Proofs.YtjgnadighdbjlaaW.PrintWords Go.Proofs.YtjgnadighdbjlaaW.PrintLast Go.Proofs.YtjgnadighdbjlaaW.PrintMore
set_option linter.unusedVariables false
set_option linter.unusedSimpArgs false
theorem pick_calls (x n : Int) (w : World) (hn : 1 ≤ n) (hn2 : n ≤ 9000000000000000000) :
    Calls Try.prog 19 #[.int .i64 x, .int .i64 n] w fun e w' => e = .returned (.int .i64 (x % n)) ∧ Below w.heap.size w w' := by
  have h1 := @tmod_floor x n (by omega)
  have h2 := Int.tmod_lt_of_pos x (show 0 < n by omega)
  have h3 := Int.emod_nonneg x (b := n) (by omega)
  have h4 := Int.emod_lt_of_pos x (show 0 < n by omega)
  have h0 : ¬ n < 1 := by omega
  cases hd : decide (x.tmod n < 0)
  · have hd' := of_decide_eq_false hd
    have := h1.2 (by omega)
    go_enter Try.func19, Try.ntmps19
    go_wp2
    go_ret
    exact ⟨by first | rfl | rw [this], Below.refl _ _⟩
  · have hd' := of_decide_eq_true hd
    have := h1.1 hd'
    have hw := wr (x.tmod n + n) (by omega) (by omega)
    go_enter Try.func19, Try.ntmps19
    go_wp2
    go_ret
    exact ⟨by first | rfl | (rw [← this]; first | rfl | (congr 2; done) | (congr 2; unfold wrap64; omega)), Below.refl _ _⟩
/-- What is shown, and how far it is from the truth. -/
theorem show_err {F O J G R D I seed s d : Int} (h : CtrOk F O J G R D I) :
    ∃ k x : Int, showF F O J G R I seed s d + k * R = F * d + O - x ∧ -(J + G / 2) ≤ x ∧ x ≤ J + G / 2 ∧ showF F O J G R I seed s d % G = 0 ∧ -(R / 2) ≤ showF F O J G R I seed s d ∧ showF F O J G R I seed s d < R / 2 := by
  have hj := h.j; have hg := h.g; have hr := h.r
  have hev := h.even
  have hdr := drawF_range seed 3 I s J hj.1
  unfold showF rawF
  generalize drawF seed 3 I s J = δ at *
  obtain ⟨r, hr0⟩ : ∃ r, F * d + O + δ = r := ⟨_, rfl⟩
  rw [hr0]
  have a1 := Int.mul_ediv_add_emod (2 * r + G) (2 * G)
  have a2 := Int.emod_nonneg (2 * r + G) (b := 2 * G) (by omega)
  have a3 := Int.emod_lt_of_pos (2 * r + G) (b := 2 * G) (by omega)
  obtain ⟨q, hq⟩ : ∃ q, (2 * r + G) / (2 * G) = q := ⟨_, rfl⟩
  rw [hq] at a1 ⊢
  obtain ⟨v, hvv⟩ : ∃ v, q * G = v := ⟨_, rfl⟩
  have a4 : 2 * G * q = 2 * v := by rw [← hvv, Int.mul_assoc, Int.mul_comm G q]
  rw [a4] at a1
  rw [hvv]
  unfold wrapF
  have b1 := Int.mul_ediv_add_emod (v + R / 2) R
  have b2 := Int.emod_nonneg (v + R / 2) (b := R) (by omega)
  have b3 := Int.emod_lt_of_pos (v + R / 2) (b := R) (by omega)
  refine ⟨(v + R / 2) / R, v - r + δ |> fun z => -z, ?_, by simp only; omega, by simp only; omega, ?_, by omega, by omega⟩
  · rw [Int.mul_comm] at b1
    simp only
    omega
  · obtain ⟨c, hc⟩ := Int.dvd_of_emod_eq_zero h.m
    have e1 : R / 2 = G * c := by rw [hc, Int.mul_assoc]; omega
    have e2 : (v + R / 2) % R - R / 2 = G * (q - 2 * c * ((v + R / 2) / R)) := by
      have : R * ((v + R / 2) / R) = G * (2 * c * ((v + R / 2) / R)) := by
        rw [show R * ((v + R / 2) / R) = 2 * G * c * ((v + R / 2) / R) by rw [← hc]]
        rw [← Int.mul_assoc, ← Int.mul_assoc, Int.mul_comm G 2]
      rw [Int.mul_sub, ← this, Int.mul_comm G q, hvv]
      omega
    rw [e2, Int.mul_emod_right]
theorem far_ok {R x k e : Int} (hR : 1 ≤ R) (h1 : -e ≤ x) (h2 : x ≤ e) : (x + k * R) % R ≤ e ∨ R - (x + k * R) % R ≤ e := by
  rw [Int.add_mul_emod_self_right]
  have a1 := Int.mul_ediv_add_emod x R
  have a2 := Int.emod_nonneg x (b := R) (by omega)
  have a3 := Int.emod_lt_of_pos x (b := R) (by omega)
  rcases Int.lt_or_le x 0 with h | h
  · right
    have : x / R ≤ -1 := by
      have := Int.ediv_lt_of_lt_mul (a := x) (b := 0) (c := R) (by omega) (by omega)
      omega
    have : R * (x / R) ≤ R * (-1) := Int.mul_le_mul_of_nonneg_left this (by omega)
    omega
  · left
    have : 0 ≤ R * (x / R) := Int.mul_nonneg (by omega) (Int.ediv_nonneg h (by omega))
    omega
theorem hits_has {F O R e m lo hi : Int} : ∀ (n : Nat) (k j : Int), k ≤ j → j < k + n → hitAt F O R e m lo hi j → (max (tLo F O R e m j) lo, min (tHi F O R e m j) hi) ∈ hitsL F O R e m lo hi k n
  | 0, k, j, h1, h2, _ => by omega
  | n + 1, k, j, h1, h2, h => by
    rw [hitsL]
    by_cases e : k = j
    · subst e; rw [if_pos h]; exact List.mem_cons_self ..
    · have := hits_has n (k + 1) j (by omega) (by omega) h
      split
      · exact List.mem_cons_of_mem _ this
      · exact this
/-- A difference of the prior that the value may come from is in what is resolved, or there is more than one turn. -/
theorem res_holds {F O R e m lo hi d k x : Int} (hF : 1 ≤ F) (hR : 1 ≤ R) (he : -e ≤ x ∧ x ≤ e) (hk : m + k * R = F * d + O - x) (hl : lo ≤ d) (hh : d ≤ hi) (n : Nat) (hn : 2 * F + 1 ≤ n) :
    (∃ a b : Int, resV (turnsL F O R e m lo hi (firstF F O R e m lo) n) = .tuple #[.agg #[.int .i64 a, .int .i64 b], .int .i64 0] ∧ a ≤ d ∧ d ≤ b ∧ lo ≤ a ∧ b ≤ hi) ∨ resV (turnsL F O R e m lo hi (firstF F O R e m lo) n) = .tuple #[.agg #[.int .i64 0, .int .i64 0], .int .i64 8] := by
  have t1 : tLo F O R e m k ≤ d := (tLo_le hF).2 (by unfold tAt; omega)
  have t2 : d ≤ tHi F O R e m k := (le_tHi hF).2 (by unfold tAt; omega)
  have hit : hitAt F O R e m lo hi k := by rw [hit_iff]; omega
  have hk0 : leastF F O R e m lo ≤ k := (least_hi hF hR).2 (by omega)
  rw [turns_res hF hR n hn, hits_same hF hR n (n + (k - leastF F O R e m lo).toNat + 1) (by omega) (by omega)]
  have hmem := hits_has (n + (k - leastF F O R e m lo).toNat + 1) (leastF F O R e m lo) k hk0 (by push_cast; omega) hit
  rcases hL : hitsL F O R e m lo hi (leastF F O R e m lo) (n + (k - leastF F O R e m lo).toNat + 1) with _ | ⟨y, _ | ⟨z, L⟩⟩
  · rw [hL] at hmem; cases hmem
  · left
    rw [hL] at hmem
    have := List.mem_singleton.1 hmem
    subst this
    exact ⟨_, _, rfl, by omega, by omega, by omega, by omega⟩
  · right; rfl
end Go.Proofs.Ytjgnadighdbjlaa.C
