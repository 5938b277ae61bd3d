/- The examples of the chapter, reckoned. -/
import Derived.OwnWalk
import Derived.Deep.RegionHeld3
import Derived.Test.YtjgnadighdbjlaaDd
namespace Go.Proofs.Ytjgnadighdbjlaa.C
open Go.RowKit Go.Shelf Go.Maps Go.Proofs.YtjgnadighdbjlaaW.PrintWords Go.Proofs.YtjgnadighdbjlaaW.PrintLast Go.Proofs.YtjgnadighdbjlaaW.PrintMore
set_option linter.unusedVariables false
set_option linter.unusedSimpArgs false
theorem ex_show0 : showR 1 0 0 100 1000 1 0 5 3 149 = (100, 0) := by decide +kernel
theorem ex_show1 : showR 1 0 0 100 1000 1 0 5 3 150 = (200, 0) := by decide +kernel
theorem ex_show2 : showR 1 0 0 100 1000 1 0 5 3 449 = (400, 0) := by decide +kernel
theorem ex_show3 : showR 1 0 0 100 1000 1 0 5 3 450 = (-500, 0) := by decide +kernel
theorem ex_show4 : showR 1 0 0 100 1000 1 0 5 3 (-50) = (0, 0) := by decide +kernel
theorem ex_show5 : showR 1 0 0 100 1000 1 0 5 3 (-51) = (-100, 0) := by decide +kernel
theorem ex_show6 : showR 1 0 0 100 1000 1 0 5 3 1049 = (0, 0) := by decide +kernel
theorem ex_show7 : showR 10 0 0 100 1000 1 0 5 3 7 = (100, 0) := by decide +kernel
theorem ex_res0 : resolveR 1 0 0 100 1000 1 0 100 0 900 = .tuple #[.agg #[.int .i64 (50), .int .i64 (150)], .int .i64 0] := by kernel_rfl
theorem ex_res1 : resolveR 1 0 0 100 1000 1 0 100 140 900 = .tuple #[.agg #[.int .i64 (140), .int .i64 (150)], .int .i64 0] := by kernel_rfl
theorem ex_res2 : resolveR 1 0 0 100 1000 1 0 100 0 1100 = .tuple #[.agg #[.int .i64 (0), .int .i64 (0)], .int .i64 8] := by kernel_rfl
theorem ex_res3 : resolveR 1 0 0 100 1000 1 0 100 200 900 = .tuple #[.agg #[.int .i64 (0), .int .i64 (0)], .int .i64 12] := by kernel_rfl
theorem ex_res4 : resolveR 10 0 0 100 1000 1 0 100 (-40) 40 = .tuple #[.agg #[.int .i64 (5), .int .i64 (15)], .int .i64 0] := by kernel_rfl
theorem ex_unw : unwE 1 0 0 100 1000 1 0 [400, -500, -400] 100 = 0 ∧ unwR 1 0 0 100 1000 1 0 [400, -500, -400] 100 = [400, 500, 600] := by decide +kernel
theorem mat1_bound {l : List Bd} (hsp : SpanOk l) (n : Nat) : ∀ i a b : Nat, mat1 l n i a b ≤ 100000000000000000 ∧ -100000000000000000 ≤ mat1 l n i a b := by
  intro i a b
  unfold mat1
  have h : ∀ (us : List Us) (D : Nat → Nat → Int), (∀ u ∈ us, -1000000000000000 ≤ (sideF l u).2.2) → (D a b ≤ 100000000000000000 ∧ -100000000000000000 ≤ D a b) → (us.foldl (fun D u => useStep D (sideF l u)) D a b ≤ 100000000000000000 ∧ -100000000000000000 ≤ us.foldl (fun D u => useStep D (sideF l u)) D a b) := by
    intro us
    induction us with
    | nil => intro D _ h; exact h
    | cons u us ih =>
      intro D hu h
      rw [List.foldl_cons]
      refine ih _ (fun x hx => hu x (List.mem_cons_of_mem _ hx)) ?_
      have := hu u (List.mem_cons_self ..)
      unfold useStep
      split <;> omega
  refine h _ _ (fun u hu => ?_) (by unfold mat0; split <;> omega)
  have hu2 := List.mem_of_mem_take hu
  obtain ⟨k, hk⟩ := List.getElem?_of_mem hu2
  have hkl : k < 2 * l.length := by have := (List.getElem?_eq_some_iff.1 hk).1; rwa [usesL_len] at this
  rw [usesL_get _ _ hkl] at hk
  cases hk
  rw [sideF_at (by omega)]
  have := hsp _ (List.getElem_mem (show k / 2 < l.length by omega))
  unfold sideB
  split <;> simp only <;> omega
abbrev lA : List Bd := [(0, 1, 1, 3), (1, 2, 1, 3), (0, 2, 5, 9)]
abbrev lB : List Bd := [(0, 1, 1, 3), (1, 2, 1, 3), (0, 2, 7, 9)]
theorem lA_ok : checkedF 3 lA = 0 := by decide +kernel
theorem lB_ok : checkedF 3 lB = 0 := by decide +kernel
theorem lA_sp : SpanOk lA := by unfold SpanOk; decide +kernel
theorem lB_sp : SpanOk lB := by unfold SpanOk; decide +kernel
theorem lA_cl : ∀ x ∈ lA, 0 ≤ x.1 ∧ x.1 < (3 : Nat) ∧ 0 ≤ x.2.1 ∧ x.2.1 < (3 : Nat) := by decide +kernel
theorem lB_cl : ∀ x ∈ lB, 0 ≤ x.1 ∧ x.1 < (3 : Nat) ∧ 0 ≤ x.2.1 ∧ x.2.1 < (3 : Nat) := by decide +kernel
theorem lB_ne : ∀ x ∈ lB, x.1 ≠ x.2.1 := by decide +kernel
theorem lA_d0 : ∀ a, a < 3 → 0 ≤ mat1 lA 3 6 a a := by decide +kernel
theorem lB_d0 : ∀ a, a < 3 → 0 ≤ mat1 lB 3 6 a a := by decide +kernel
theorem lA_fw : ∀ k, k < 3 → (∀ j, j ≤ k → ∀ a, a < 3 → 0 ≤ fwIt (mat1 lA 3 6) j a a) → (∀ a b, a < 3 → b < 3 → fwIt (mat1 lA 3 6) k a b < 100000000000000000 → -20000000000000000 ≤ fwIt (mat1 lA 3 6) k a b ∧ fwIt (mat1 lA 3 6) k a b ≤ 20000000000000000) ∧ fwIt (mat1 lA 3 6) k k k = 0 := by
  have h : ∀ k, k < 3 → (∀ a, a < 3 → ∀ b, b < 3 → fwIt (mat1 lA 3 6) k a b < 100000000000000000 → -20000000000000000 ≤ fwIt (mat1 lA 3 6) k a b ∧ fwIt (mat1 lA 3 6) k a b ≤ 20000000000000000) ∧ fwIt (mat1 lA 3 6) k k k = 0 := by decide +kernel
  exact fun k hk _ => ⟨fun a b ha hb => (h k hk).1 a ha b hb, (h k hk).2⟩
theorem lB_fw : ∀ k, k < 3 → (∀ j, j ≤ k → ∀ a, a < 3 → 0 ≤ fwIt (mat1 lB 3 6) j a a) → (∀ a b, a < 3 → b < 3 → fwIt (mat1 lB 3 6) k a b < 100000000000000000 → -20000000000000000 ≤ fwIt (mat1 lB 3 6) k a b ∧ fwIt (mat1 lB 3 6) k a b ≤ 20000000000000000) ∧ fwIt (mat1 lB 3 6) k k k = 0 := by
  have h : ∀ k, k < 2 → (∀ a, a < 3 → ∀ b, b < 3 → fwIt (mat1 lB 3 6) k a b < 100000000000000000 → -20000000000000000 ≤ fwIt (mat1 lB 3 6) k a b ∧ fwIt (mat1 lB 3 6) k a b ≤ 20000000000000000) ∧ fwIt (mat1 lB 3 6) k k k = 0 := by decide +kernel
  have hn : fwIt (mat1 lB 3 6) 2 2 2 < 0 := by decide +kernel
  intro k hk hj
  by_cases h2 : k < 2
  · exact ⟨fun a b ha hb => (h k h2).1 a ha b hb, (h k h2).2⟩
  · have := hj 2 (by omega) 2 (by omega)
    omega
theorem lA_fin : okFw 3 (mat1 lA 3 6) := by
  have h : ∀ k, k < 4 → ∀ a, a < 3 → 0 ≤ fwIt (mat1 lA 3 6) k a a := by decide +kernel
  exact fun k hk => h k (by omega)
theorem lA_mat : (List.range 3).map (fun a => (List.range 3).map (fwIt (mat1 lA 3 6) 3 a)) = [[0, 3, 6], [-2, 0, 3], [-5, -2, 0]] := by decide +kernel
theorem lB_fin : ¬ okFw 3 (mat1 lB 3 6) := by
  intro h
  have h2 : ¬ ∀ k, k < 4 → ∀ a, a < 3 → 0 ≤ fwIt (mat1 lB 3 6) k a a := by decide +kernel
  exact h2 (fun k hk => h k (by omega))
theorem lB_L : ∃ q, q < 3 ∧ (ctRun lB 3).L = ((q : Nat) : Int) := by decide +kernel
theorem lB_cyc : ∀ q : Nat, (ctRun lB 3).L = q → ∃ k, 1 ≤ k ∧ k ≤ 3 ∧ backN lB (ctRun lB 3) (backN lB (ctRun lB 3) q 3) k = backN lB (ctRun lB 3) q 3 ∧ ∀ j, 1 ≤ j → j < k → backN lB (ctRun lB 3) (backN lB (ctRun lB 3) q 3) j ≠ backN lB (ctRun lB 3) q 3 := by
  have h : ∀ q, q < 3 → (ctRun lB 3).L = ((q : Nat) : Int) → (∀ j, j < 3 → 1 ≤ j → backN lB (ctRun lB 3) (backN lB (ctRun lB 3) q 3) j ≠ backN lB (ctRun lB 3) q 3) ∧ backN lB (ctRun lB 3) (backN lB (ctRun lB 3) q 3) 3 = backN lB (ctRun lB 3) q 3 := by decide +kernel
  intro q hq
  obtain ⟨q', hq', h1⟩ := lB_L
  have e : q = q' := by omega
  subst e
  have := h q hq' hq
  exact ⟨3, by omega, by omega, this.2, fun j h1 h2 => this.1 j h2 h1⟩
theorem lB_way : ∀ q : Nat, (ctRun lB 3).L = q → ∀ k, 1 ≤ k → k ≤ 3 → backN lB (ctRun lB 3) (backN lB (ctRun lB 3) q 3) k = backN lB (ctRun lB 3) q 3 → k = 3 ∧ refuteF 3 lB (wayL lB (ctRun lB 3) (backN lB (ctRun lB 3) q 3) 3).reverse = 0 := by
  intro q hq k h1 h2 h3
  obtain ⟨q', hq', hL⟩ := lB_L
  have e : q = q' := by omega
  subst e
  have h : ∀ q, q < 3 → (ctRun lB 3).L = ((q : Nat) : Int) → ∀ k, k < 4 → 1 ≤ k → backN lB (ctRun lB 3) (backN lB (ctRun lB 3) q 3) k = backN lB (ctRun lB 3) q 3 → k = 3 := by decide +kernel
  have hw : ∀ q, q < 3 → (ctRun lB 3).L = ((q : Nat) : Int) → (wayL lB (ctRun lB 3) (backN lB (ctRun lB 3) q 3) 3).reverse.any (outU 3) = false ∧ (∀ i, i < 3 → (uAt lB (wayL lB (ctRun lB 3) (backN lB (ctRun lB 3) q 3) 3).reverse i).2.1 = (uAt lB (wayL lB (ctRun lB 3) (backN lB (ctRun lB 3) q 3) 3).reverse ((i + 1) % 3)).1) ∧ totalTo lB (wayL lB (ctRun lB 3) (backN lB (ctRun lB 3) q 3) 3).reverse 3 < 0 := by decide +kernel
  refine ⟨h q hq' hq k (by omega) h1 h3, ?_⟩
  obtain ⟨a1, a2, a3⟩ := hw q hq' hq
  generalize hr : (wayL lB (ctRun lB 3) (backN lB (ctRun lB 3) q 3) 3).reverse = u at *
  have hl : u.length = 3 := by rw [← hr, List.length_reverse, wayL_len]
  unfold refuteF
  rw [if_neg (by rw [lB_ok]; simp), if_neg (by omega), if_neg (by rw [show lB.length = 3 from rfl, a1]; simp; intro h; rw [h] at hl; simp at hl), if_pos (by rw [hl]; intro i hi; rw [hl]; exact a2 i hi), if_neg (by rw [hl]; omega)]
theorem refuteF_zero {n : Int} {l : List Bd} {u : List Us} (hck : checkedF n l = 0) (h1 : u.length ≤ 240) (h0 : u.length ≠ 0) (hany : u.any (outU l.length) = false) (hc : chainTo l u u.length) (ht : totalTo l u u.length < 0) : refuteF n l u = 0 := by
  unfold refuteF
  rw [if_neg (by rw [hck]; simp), if_neg (by omega), if_neg (by rw [hany]; simp; intro h; rw [h] at h0; simp at h0), if_pos hc, if_neg (by omega)]
theorem lB_ref : refuteF 3 lB [(2, false), (0, true), (1, true)] = 0 := by
  have a2 : ∀ i, i < 3 → (uAt lB [(2, false), (0, true), (1, true)] i).2.1 = (uAt lB [(2, false), (0, true), (1, true)] ((i + 1) % 3)).1 := by decide +kernel
  have a3 : totalTo lB [(2, false), (0, true), (1, true)] 3 < 0 := by decide +kernel
  exact refuteF_zero lB_ok (by decide) (by decide) (by decide +kernel) (fun i hi => a2 i hi) a3
end Go.Proofs.Ytjgnadighdbjlaa.C
