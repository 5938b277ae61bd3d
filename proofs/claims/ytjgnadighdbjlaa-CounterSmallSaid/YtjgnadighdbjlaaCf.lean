/- Contracts of the counter's seconds and shown values, by hand. -/
import Derived.OwnWalk
import Derived.Deep.RegionHeld3
import Derived.Test.YtjgnadighdbjlaaCe
namespace Go.Proofs.Ytjgnadighdbjlaa.C
open Go.RowKit Go.Shelf Go.Maps Go.Proofs.YtjgnadighdbjlaaW.PrintWords Go.Proofs.YtjgnadighdbjlaaW.PrintLast Go.Proofs.YtjgnadighdbjlaaW.PrintMore
set_option linter.unusedVariables false
set_option linter.unusedSimpArgs false
/-- A counter measures at a second. -/
def readyF (D s : Int) : Bool := decide (0 ≤ s) && decide (s ≤ 1000000) && decide (s % D = 0)
def shownF (R m : Int) : Bool := decide (-(R / 2) ≤ m) && decide (m ≤ R / 2 - 1)
set_option maxHeartbeats 1000000 in
theorem ready_calls (F O J G R D I s : Int) (w : World) (hD : 1 ≤ D ∧ D ≤ 100000) :
    Calls Try.prog 42 #[.agg #[.int .i64 F, .int .i64 O, .int .i64 J, .int .i64 G, .int .i64 R, .int .i64 D, .int .i64 I], .int .i64 s] w fun e w' => e = .returned (.bool (readyF D s)) ∧ Below w.heap.size w w' := by
  have hv := Below.refl w.heap.size w
  have ca := fun w => in_calls s 0 1000000 w
  unfold readyF
  cases hb : (decide (0 ≤ s) && decide (s ≤ 1000000))
  · rw [hb] at ca
    rw [Bool.false_and]
    go_enter Try.func42, Try.ntmps42
    go_wp2_with fail
    obtain ⟨w1, hw1⟩ : ∃ w1, w.alloc (.cells #[.int .i64 F, .int .i64 O, .int .i64 J, .int .i64 G, .int .i64 R, .int .i64 D, .int .i64 I] 51) = w1 := ⟨_, rfl⟩
    try rw [hw1]
    have hB : Below w.heap.size w w1 := by rw [← hw1]; exact (Below.refl _ w).alloc (by first | exact Nat.le_refl _ | (simp; done) | (simp; omega)) _
    have kx : w1.heap[w.heap.size]? = some (.cells #[.int .i64 F, .int .i64 O, .int .i64 J, .int .i64 G, .int .i64 R, .int .i64 D, .int .i64 I] 51 (0, 0)) := by rw [← hw1]; exact al_new _ _ _ (by first | rfl | (simp; done) | (simp; omega))
    have x0 : w1.cell? ⟨w.heap.size, 0, none⟩ = some (.int .i64 F) := blk_cell kx 0
    have x1 : w1.cell? ⟨w.heap.size, 1, none⟩ = some (.int .i64 O) := blk_cell kx 1
    have x2 : w1.cell? ⟨w.heap.size, 2, none⟩ = some (.int .i64 J) := blk_cell kx 2
    have x3 : w1.cell? ⟨w.heap.size, 3, none⟩ = some (.int .i64 G) := blk_cell kx 3
    have x4 : w1.cell? ⟨w.heap.size, 4, none⟩ = some (.int .i64 R) := blk_cell kx 4
    have x5 : w1.cell? ⟨w.heap.size, 5, none⟩ = some (.int .i64 D) := blk_cell kx 5
    have x6 : w1.cell? ⟨w.heap.size, 6, none⟩ = some (.int .i64 I) := blk_cell kx 6
    clear kx
    replace hv := hv.trans (hB.mono hv.size)
    clear hB hw1
    refine (ca _).mono ?_
    rintro en w2 ⟨rfl, hB⟩
    replace x0 := cell_on hB x0
    replace x1 := cell_on hB x1
    replace x2 := cell_on hB x2
    replace x3 := cell_on hB x3
    replace x4 := cell_on hB x4
    replace x5 := cell_on hB x5
    replace x6 := cell_on hB x6
    replace hv := hv.trans (hB.mono hv.size)
    clear hB ca
    go_wp2_with fail
    go_ret
    exact ⟨rfl, hv⟩
  · rw [hb] at ca
    rw [Bool.true_and]
    have hs : 0 ≤ s := by simp at hb; omega
    have t0 := Int.tmod_eq_emod_of_nonneg (a := s) hs (b := D)
    generalize hc : decide (s % D = 0) = c at *
    have HC : Aside0 ((s % D == 0) = c) := ⟨by rw [← hc]; rfl⟩
    clear hb
    go_enter Try.func42, Try.ntmps42
    go_wp2_with fail
    obtain ⟨w1, hw1⟩ : ∃ w1, w.alloc (.cells #[.int .i64 F, .int .i64 O, .int .i64 J, .int .i64 G, .int .i64 R, .int .i64 D, .int .i64 I] 51) = w1 := ⟨_, rfl⟩
    try rw [hw1]
    have hB : Below w.heap.size w w1 := by rw [← hw1]; exact (Below.refl _ w).alloc (by first | exact Nat.le_refl _ | (simp; done) | (simp; omega)) _
    have kx : w1.heap[w.heap.size]? = some (.cells #[.int .i64 F, .int .i64 O, .int .i64 J, .int .i64 G, .int .i64 R, .int .i64 D, .int .i64 I] 51 (0, 0)) := by rw [← hw1]; exact al_new _ _ _ (by first | rfl | (simp; done) | (simp; omega))
    have x0 : w1.cell? ⟨w.heap.size, 0, none⟩ = some (.int .i64 F) := blk_cell kx 0
    have x1 : w1.cell? ⟨w.heap.size, 1, none⟩ = some (.int .i64 O) := blk_cell kx 1
    have x2 : w1.cell? ⟨w.heap.size, 2, none⟩ = some (.int .i64 J) := blk_cell kx 2
    have x3 : w1.cell? ⟨w.heap.size, 3, none⟩ = some (.int .i64 G) := blk_cell kx 3
    have x4 : w1.cell? ⟨w.heap.size, 4, none⟩ = some (.int .i64 R) := blk_cell kx 4
    have x5 : w1.cell? ⟨w.heap.size, 5, none⟩ = some (.int .i64 D) := blk_cell kx 5
    have x6 : w1.cell? ⟨w.heap.size, 6, none⟩ = some (.int .i64 I) := blk_cell kx 6
    clear kx
    replace hv := hv.trans (hB.mono hv.size)
    clear hB hw1
    refine (ca _).mono ?_
    rintro en w2 ⟨rfl, hB⟩
    replace x0 := cell_on hB x0
    replace x1 := cell_on hB x1
    replace x2 := cell_on hB x2
    replace x3 := cell_on hB x3
    replace x4 := cell_on hB x4
    replace x5 := cell_on hB x5
    replace x6 := cell_on hB x6
    replace hv := hv.trans (hB.mono hv.size)
    clear hB ca
    go_wp2_with fail
    go_ret
    exact ⟨by rw [← HC.out]; rfl, hv⟩
set_option maxHeartbeats 1000000 in
theorem rready_calls (F O J G R D I s : Int) (w : World) (hD : 1 ≤ D ∧ D ≤ 100000) :
    Calls Try.prog 51 #[.agg #[.int .i64 F, .int .i64 O, .int .i64 J, .int .i64 G, .int .i64 R, .int .i64 D, .int .i64 I], .int .i64 s] w fun e w' => e = .returned (.bool (readyF D s)) ∧ Below w.heap.size w w' := by
  have hv := Below.refl w.heap.size w
  unfold readyF
  cases h1 : decide (0 ≤ s)
  · rw [Bool.false_and, Bool.false_and]
    go_enter Try.func51, Try.ntmps51
    go_wp2
    go_ret
    exact ⟨rfl, hv.alloc (Nat.le_refl _) _⟩
  · cases h2 : decide (s ≤ 1000000)
    · rw [Bool.and_false, Bool.false_and]
      go_enter Try.func51, Try.ntmps51
      go_wp2
      go_ret
      exact ⟨rfl, hv.alloc (Nat.le_refl _) _⟩
    · rw [Bool.true_and, Bool.true_and]
      have t0 := Int.tmod_eq_emod_of_nonneg (a := s) (of_decide_eq_true h1) (b := D)
      generalize hc : decide (s % D = 0) = c at *
      have HC : Aside0 ((s % D == 0) = c) := ⟨by rw [← hc]; rfl⟩
      go_enter Try.func51, Try.ntmps51
      go_wp2
      go_ret
      exact ⟨by rw [← HC.out]; rfl, hv.alloc (Nat.le_refl _) _⟩
set_option maxHeartbeats 1000000 in
theorem shown_calls (F O J G R D I m : Int) (w : World) (hR : 1 ≤ R ∧ R ≤ 1000000000000000) (hR2 : R % 2 = 0) :
    Calls Try.prog 44 #[.agg #[.int .i64 F, .int .i64 O, .int .i64 J, .int .i64 G, .int .i64 R, .int .i64 D, .int .i64 I], .int .i64 m] w fun e w' => e = .returned (.bool (shownF R m)) ∧ Below w.heap.size w w' := by
  have hv := Below.refl w.heap.size w
  have t0 := Int.tdiv_eq_ediv_of_nonneg (a := R) (by omega) (b := 2)
  have t1 : (-R).tdiv 2 = -(R / 2) := by rw [Int.neg_tdiv, t0]
  have ca := fun w => in_calls m (-(R / 2)) (R / 2 - 1) w
  unfold shownF
  go_enter Try.func44, Try.ntmps44
  go_wp2_with fail
  obtain ⟨w1, hw1⟩ : ∃ w1, w.alloc (.cells #[.int .i64 F, .int .i64 O, .int .i64 J, .int .i64 G, .int .i64 R, .int .i64 D, .int .i64 I] 51) = w1 := ⟨_, rfl⟩
  try rw [hw1]
  have hB : Below w.heap.size w w1 := by rw [← hw1]; exact (Below.refl _ w).alloc (by first | exact Nat.le_refl _ | (simp; done) | (simp; omega)) _
  have kx : w1.heap[w.heap.size]? = some (.cells #[.int .i64 F, .int .i64 O, .int .i64 J, .int .i64 G, .int .i64 R, .int .i64 D, .int .i64 I] 51 (0, 0)) := by rw [← hw1]; exact al_new _ _ _ (by first | rfl | (simp; done) | (simp; omega))
  have x0 : w1.cell? ⟨w.heap.size, 0, none⟩ = some (.int .i64 F) := blk_cell kx 0
  have x1 : w1.cell? ⟨w.heap.size, 1, none⟩ = some (.int .i64 O) := blk_cell kx 1
  have x2 : w1.cell? ⟨w.heap.size, 2, none⟩ = some (.int .i64 J) := blk_cell kx 2
  have x3 : w1.cell? ⟨w.heap.size, 3, none⟩ = some (.int .i64 G) := blk_cell kx 3
  have x4 : w1.cell? ⟨w.heap.size, 4, none⟩ = some (.int .i64 R) := blk_cell kx 4
  have x5 : w1.cell? ⟨w.heap.size, 5, none⟩ = some (.int .i64 D) := blk_cell kx 5
  have x6 : w1.cell? ⟨w.heap.size, 6, none⟩ = some (.int .i64 I) := blk_cell kx 6
  clear kx
  replace hv := hv.trans (hB.mono hv.size)
  clear hB hw1
  refine (ca _).mono ?_
  rintro en w2 ⟨rfl, hB⟩
  replace x0 := cell_on hB x0
  replace x1 := cell_on hB x1
  replace x2 := cell_on hB x2
  replace x3 := cell_on hB x3
  replace x4 := cell_on hB x4
  replace x5 := cell_on hB x5
  replace x6 := cell_on hB x6
  replace hv := hv.trans (hB.mono hv.size)
  clear hB ca
  go_wp2_with fail
  go_ret
  exact ⟨rfl, hv⟩
end Go.Proofs.Ytjgnadighdbjlaa.C
