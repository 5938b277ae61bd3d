/- Contracts of a net's check, by hand. -/
import Derived.OwnWalk
import Derived.Deep.RegionHeld3
import Derived.Test.YtjgnadighdbjlaaCq
namespace Go.Proofs.Ytjgnadighdbjlaa.C
open Go.RowKit Go.Shelf Go.Maps Go.Proofs.YtjgnadighdbjlaaW.PrintWords Go.Proofs.YtjgnadighdbjlaaW.PrintLast Go.Proofs.YtjgnadighdbjlaaW.PrintMore
set_option linter.unusedVariables false
set_option linter.unusedSimpArgs false
/-- A bound is wrong. -/
def badB (n : Int) (x : Bd) : Bool := !(decide (0 ≤ x.1) && decide (x.1 ≤ n - 1)) || !(decide (0 ≤ x.2.1) && decide (x.2.1 ≤ n - 1)) || decide (x.1 = x.2.1) || decide (x.2.2.2 < x.2.2.1) || decide (x.2.2.1 < -1000000000000000) || decide (1000000000000000 < x.2.2.2)
/-- What checked answers. -/
def checkedF (n : Int) (l : List Bd) : Int := if n < 1 ∨ 16 < n then 1 else if 240 < l.length then 2 else if l.any (badB n) then 6 else 0
set_option maxHeartbeats 1000000 in
set_option maxRecDepth 100000 in
theorem wrong_calls (n A B lo hi : Int) (g : Nat) (w : World) (hn : 1 ≤ n ∧ n ≤ 16) (kn : w.cell? ⟨g, 0, none⟩ = some (.int .i64 n)) :
    Calls Try.prog 57 #[.agg #[.int .i64 A, .int .i64 B, .int .i64 lo, .int .i64 hi], .pointer (some ⟨g, 0, none⟩)] w fun e w' => e = .returned (.bool (badB n (A, B, lo, hi))) ∧ Below w.heap.size w w' := by
  have hv := Below.refl w.heap.size w
  have c1 := fun w => in_calls A 0 (n - 1) w
  have c2 := fun w => in_calls B 0 (n - 1) w
  have hw := wrp (n - 1) (by omega) (by omega)
  unfold badB
  simp only
  have hgl := World.block_lt_of_cell? _ _ kn
  cases h1 : (decide (0 ≤ A) && decide (A ≤ n - 1))
  · rw [h1] at c1
    simp only [Bool.not_false, Bool.true_or]
    go_enter Try.func57, Try.ntmps57
    go_wp2_with fail
    obtain ⟨w1, hw1⟩ : ∃ w1, w.alloc (.cells #[.int .i64 A, .int .i64 B, .int .i64 lo, .int .i64 hi] 46) = w1 := ⟨_, rfl⟩
    try rw [hw1]
    have hB : Below w.heap.size w w1 := by rw [← hw1]; exact (Below.refl _ w).alloc (by first | exact Nat.le_refl _ | (simp; done) | (simp; omega)) _
    have kx : w1.heap[w.heap.size]? = some (.cells #[.int .i64 A, .int .i64 B, .int .i64 lo, .int .i64 hi] 46 (0, 0)) := by rw [← hw1]; exact al_new _ _ _ (by first | rfl | (simp; done) | (simp; omega))
    have x0 : w1.cell? ⟨w.heap.size, 0, none⟩ = some (.int .i64 A) := blk_cell kx 0
    have x1 : w1.cell? ⟨w.heap.size, 1, none⟩ = some (.int .i64 B) := blk_cell kx 1
    have x2 : w1.cell? ⟨w.heap.size, 2, none⟩ = some (.int .i64 lo) := blk_cell kx 2
    have x3 : w1.cell? ⟨w.heap.size, 3, none⟩ = some (.int .i64 hi) := blk_cell kx 3
    clear kx
    replace kn := cell_on hB kn
    replace hv := hv.trans (hB.mono hv.size)
    clear hB hw1
    have hs1 := World.block_lt_of_cell? _ _ x0
    have hs2 := World.block_lt_of_cell? _ _ kn
    refine (c1 _).mono ?_
    rintro en w2 ⟨rfl, hB⟩
    replace kn := cell_on hB kn
    replace x0 := cell_on hB x0
    replace x1 := cell_on hB x1
    replace x2 := cell_on hB x2
    replace x3 := cell_on hB x3
    replace hv := hv.trans (hB.mono hv.size)
    clear hB c1
    go_wp2_with fail
    go_ret
    exact ⟨rfl, hv⟩
  rw [h1] at c1
  cases h2 : (decide (0 ≤ B) && decide (B ≤ n - 1))
  · rw [h2] at c2
    simp only [Bool.not_false, Bool.true_or, Bool.or_true]
    go_enter Try.func57, Try.ntmps57
    go_wp2_with fail
    obtain ⟨w1, hw1⟩ : ∃ w1, w.alloc (.cells #[.int .i64 A, .int .i64 B, .int .i64 lo, .int .i64 hi] 46) = w1 := ⟨_, rfl⟩
    try rw [hw1]
    have hB : Below w.heap.size w w1 := by rw [← hw1]; exact (Below.refl _ w).alloc (by first | exact Nat.le_refl _ | (simp; done) | (simp; omega)) _
    have kx : w1.heap[w.heap.size]? = some (.cells #[.int .i64 A, .int .i64 B, .int .i64 lo, .int .i64 hi] 46 (0, 0)) := by rw [← hw1]; exact al_new _ _ _ (by first | rfl | (simp; done) | (simp; omega))
    have x0 : w1.cell? ⟨w.heap.size, 0, none⟩ = some (.int .i64 A) := blk_cell kx 0
    have x1 : w1.cell? ⟨w.heap.size, 1, none⟩ = some (.int .i64 B) := blk_cell kx 1
    have x2 : w1.cell? ⟨w.heap.size, 2, none⟩ = some (.int .i64 lo) := blk_cell kx 2
    have x3 : w1.cell? ⟨w.heap.size, 3, none⟩ = some (.int .i64 hi) := blk_cell kx 3
    clear kx
    replace kn := cell_on hB kn
    replace hv := hv.trans (hB.mono hv.size)
    clear hB hw1
    have hs1 := World.block_lt_of_cell? _ _ x0
    have hs2 := World.block_lt_of_cell? _ _ kn
    refine (c1 _).mono ?_
    rintro en w2 ⟨rfl, hB⟩
    replace kn := cell_on hB kn
    replace x0 := cell_on hB x0
    replace x1 := cell_on hB x1
    replace x2 := cell_on hB x2
    replace x3 := cell_on hB x3
    replace hv := hv.trans (hB.mono hv.size)
    clear hB c1
    go_wp2_with fail
    refine (c2 _).mono ?_
    rintro en w3 ⟨rfl, hB⟩
    replace kn := cell_on hB kn
    replace x0 := cell_on hB x0
    replace x1 := cell_on hB x1
    replace x2 := cell_on hB x2
    replace x3 := cell_on hB x3
    replace hv := hv.trans (hB.mono hv.size)
    clear hB c2
    go_wp2_with fail
    go_ret
    exact ⟨rfl, hv⟩
  rw [h2] at c2
  clear h1 h2
  simp only [Bool.not_true, Bool.false_or]
  have hEQ : (A == B) = decide (A = B) := rfl
  cases b0 : decide (A = B)
  rotate_left
  · simp only [Bool.true_or, Bool.or_true, Bool.false_or]
    rw [b0] at hEQ
    clear b0
    go_enter Try.func57, Try.ntmps57
    go_wp2_with fail
    obtain ⟨w1, hw1⟩ : ∃ w1, w.alloc (.cells #[.int .i64 A, .int .i64 B, .int .i64 lo, .int .i64 hi] 46) = w1 := ⟨_, rfl⟩
    try rw [hw1]
    have hB : Below w.heap.size w w1 := by rw [← hw1]; exact (Below.refl _ w).alloc (by first | exact Nat.le_refl _ | (simp; done) | (simp; omega)) _
    have kx : w1.heap[w.heap.size]? = some (.cells #[.int .i64 A, .int .i64 B, .int .i64 lo, .int .i64 hi] 46 (0, 0)) := by rw [← hw1]; exact al_new _ _ _ (by first | rfl | (simp; done) | (simp; omega))
    have x0 : w1.cell? ⟨w.heap.size, 0, none⟩ = some (.int .i64 A) := blk_cell kx 0
    have x1 : w1.cell? ⟨w.heap.size, 1, none⟩ = some (.int .i64 B) := blk_cell kx 1
    have x2 : w1.cell? ⟨w.heap.size, 2, none⟩ = some (.int .i64 lo) := blk_cell kx 2
    have x3 : w1.cell? ⟨w.heap.size, 3, none⟩ = some (.int .i64 hi) := blk_cell kx 3
    clear kx
    replace kn := cell_on hB kn
    replace hv := hv.trans (hB.mono hv.size)
    clear hB hw1
    have hs1 := World.block_lt_of_cell? _ _ x0
    have hs2 := World.block_lt_of_cell? _ _ kn
    refine (c1 _).mono ?_
    rintro en w2 ⟨rfl, hB⟩
    replace kn := cell_on hB kn
    replace x0 := cell_on hB x0
    replace x1 := cell_on hB x1
    replace x2 := cell_on hB x2
    replace x3 := cell_on hB x3
    replace hv := hv.trans (hB.mono hv.size)
    clear hB c1
    go_wp2_with fail
    refine (c2 _).mono ?_
    rintro en w3 ⟨rfl, hB⟩
    replace kn := cell_on hB kn
    replace x0 := cell_on hB x0
    replace x1 := cell_on hB x1
    replace x2 := cell_on hB x2
    replace x3 := cell_on hB x3
    replace hv := hv.trans (hB.mono hv.size)
    clear hB c2
    go_wp2_with fail
    go_ret
    exact ⟨rfl, hv⟩
  rw [b0] at hEQ
  clear b0
  simp only [Bool.false_or]
  go_enter Try.func57, Try.ntmps57
  go_wp2_with fail
  obtain ⟨w1, hw1⟩ : ∃ w1, w.alloc (.cells #[.int .i64 A, .int .i64 B, .int .i64 lo, .int .i64 hi] 46) = w1 := ⟨_, rfl⟩
  try rw [hw1]
  have hB : Below w.heap.size w w1 := by rw [← hw1]; exact (Below.refl _ w).alloc (by first | exact Nat.le_refl _ | (simp; done) | (simp; omega)) _
  have kx : w1.heap[w.heap.size]? = some (.cells #[.int .i64 A, .int .i64 B, .int .i64 lo, .int .i64 hi] 46 (0, 0)) := by rw [← hw1]; exact al_new _ _ _ (by first | rfl | (simp; done) | (simp; omega))
  have x0 : w1.cell? ⟨w.heap.size, 0, none⟩ = some (.int .i64 A) := blk_cell kx 0
  have x1 : w1.cell? ⟨w.heap.size, 1, none⟩ = some (.int .i64 B) := blk_cell kx 1
  have x2 : w1.cell? ⟨w.heap.size, 2, none⟩ = some (.int .i64 lo) := blk_cell kx 2
  have x3 : w1.cell? ⟨w.heap.size, 3, none⟩ = some (.int .i64 hi) := blk_cell kx 3
  clear kx
  replace kn := cell_on hB kn
  replace hv := hv.trans (hB.mono hv.size)
  clear hB hw1
  have hs1 := World.block_lt_of_cell? _ _ x0
  have hs2 := World.block_lt_of_cell? _ _ kn
  refine (c1 _).mono ?_
  rintro en w2 ⟨rfl, hB⟩
  replace kn := cell_on hB kn
  replace x0 := cell_on hB x0
  replace x1 := cell_on hB x1
  replace x2 := cell_on hB x2
  replace x3 := cell_on hB x3
  replace hv := hv.trans (hB.mono hv.size)
  clear hB c1
  go_wp2_with fail
  refine (c2 _).mono ?_
  rintro en w3 ⟨rfl, hB⟩
  replace kn := cell_on hB kn
  replace x0 := cell_on hB x0
  replace x1 := cell_on hB x1
  replace x2 := cell_on hB x2
  replace x3 := cell_on hB x3
  replace hv := hv.trans (hB.mono hv.size)
  clear hB c2
  go_wp2_with fail
  all_goals (go_ret; exact ⟨rfl, hv⟩)
set_option maxHeartbeats 1000000 in
set_option maxRecDepth 100000 in
theorem checked_calls (n : Int) (A : Option Addr) (c : Nat) (l : List Bd) (w : World) (hr : Kd.C kb w A l.length l) :
    Calls Try.prog 29 #[.int .i64 n, .slice A l.length c] w fun e w' => e = .returned (.int .i64 (checkedF n l)) ∧ Below w.heap.size w w' := by
  have hv := Below.refl w.heap.size w
  have c1 := fun w => in_calls n 1 16 w
  have HR := Aside0.mk hr
  have hll : l.length ≤ 9223372036854775807 := hr.2.1
  clear hr
  unfold checkedF
  by_cases hn : n < 1 ∨ 16 < n
  · rw [if_pos hn]
    rw [show (decide (1 ≤ n) && decide (n ≤ 16)) = false by simp; omega] at c1
    clear hn
    go_enter Try.func29, Try.ntmps29
    go_wp2_with fail
    obtain ⟨w1, hw1⟩ : ∃ w1, w.alloc (.cells #[.int .i64 n] 3) = w1 := ⟨_, rfl⟩
    try rw [hw1]
    have hB : Below w.heap.size w w1 := by rw [← hw1]; exact (Below.refl _ w).alloc (by first | exact Nat.le_refl _ | (simp; done) | (simp; omega)) _
    have kx : w1.heap[w.heap.size]? = some (.cells #[.int .i64 n] 3 (0, 0)) := by rw [← hw1]; exact al_new _ _ _ (by first | rfl | (simp; done) | (simp; omega))
    have x0 : w1.cell? ⟨w.heap.size, 0, none⟩ = some (.int .i64 n) := blk_cell kx 0
    clear kx
    replace hv := hv.trans (hB.mono hv.size)
    clear hB hw1
    have hs1 := World.block_lt_of_cell? _ _ x0
    go_wp2_with fail
    refine (c1 _).mono ?_
    rintro en w2 ⟨rfl, hB⟩
    replace x0 := cell_on hB x0
    replace hv := hv.trans (hB.mono hv.size)
    clear hB c1
    go_wp2_with fail
    go_ret
    exact ⟨rfl, hv⟩
  · rw [if_neg hn]
    rw [show (decide (1 ≤ n) && decide (n ≤ 16)) = true by simp; omega] at c1
    by_cases hl : 240 < l.length
    · rw [if_pos hl]
      have hl2 : (240 : Int) < (l.length : Int) := by omega
      go_enter Try.func29, Try.ntmps29
      go_wp2_with fail
      obtain ⟨w1, hw1⟩ : ∃ w1, w.alloc (.cells #[.int .i64 n] 3) = w1 := ⟨_, rfl⟩
      try rw [hw1]
      have hB : Below w.heap.size w w1 := by rw [← hw1]; exact (Below.refl _ w).alloc (by first | exact Nat.le_refl _ | (simp; done) | (simp; omega)) _
      have kx : w1.heap[w.heap.size]? = some (.cells #[.int .i64 n] 3 (0, 0)) := by rw [← hw1]; exact al_new _ _ _ (by first | rfl | (simp; done) | (simp; omega))
      have x0 : w1.cell? ⟨w.heap.size, 0, none⟩ = some (.int .i64 n) := blk_cell kx 0
      clear kx
      replace hv := hv.trans (hB.mono hv.size)
      clear hB hw1
      have hs1 := World.block_lt_of_cell? _ _ x0
      go_wp2_with fail
      refine (c1 _).mono ?_
      rintro en w2 ⟨rfl, hB⟩
      replace x0 := cell_on hB x0
      replace hv := hv.trans (hB.mono hv.size)
      clear hB c1
      go_wp2_with fail
      go_ret
      exact ⟨rfl, hv⟩
    · rw [if_neg hl]
      have hl2 : ¬ (240 : Int) < (l.length : Int) := by omega
      have c2 := fun (W : World) (B : Nat) (hC : Kd.C kb W A l.length l) (hB : W.cell? ⟨B, 0, none⟩ = some (.int .i64 n)) =>
        containsFuncB_calls A c l 57 #[.pointer (some ⟨B, 0, none⟩)] (enters_of Try.func57 (by kernel_rfl) rfl) (badB n) W hC (fun W' x _ hW => wrong_calls n x.1 x.2.1 x.2.2.1 x.2.2.2 B W' (by omega) (cell_on hW hB))
      cases hany : l.any (badB n) <;> rw [hany] at c2 <;> clear hany
      · simp only [Bool.false_eq_true, if_false]
        go_enter Try.func29, Try.ntmps29
        go_wp2_with fail
        obtain ⟨w1, hw1⟩ : ∃ w1, w.alloc (.cells #[.int .i64 n] 3) = w1 := ⟨_, rfl⟩
        try rw [hw1]
        have hB : Below w.heap.size w w1 := by rw [← hw1]; exact (Below.refl _ w).alloc (by first | exact Nat.le_refl _ | (simp; done) | (simp; omega)) _
        have kx : w1.heap[w.heap.size]? = some (.cells #[.int .i64 n] 3 (0, 0)) := by rw [← hw1]; exact al_new _ _ _ (by first | rfl | (simp; done) | (simp; omega))
        have x0 : w1.cell? ⟨w.heap.size, 0, none⟩ = some (.int .i64 n) := blk_cell kx 0
        clear kx
        replace hv := hv.trans (hB.mono hv.size)
        clear hB hw1
        have hs1 := World.block_lt_of_cell? _ _ x0
        go_wp2_with fail
        refine (c1 _).mono ?_
        rintro en w2 ⟨rfl, hB⟩
        replace x0 := cell_on hB x0
        replace hv := hv.trans (hB.mono hv.size)
        clear hB c1
        go_wp2_with fail
        have HC := Kd.C_below HR.out hv
        refine (c2 _ _ HC x0).mono ?_
        rintro en w3 ⟨rfl, hB⟩
        replace x0 := cell_on hB x0
        replace hv := hv.trans (hB.mono hv.size)
        clear hB c2
        go_wp2_with fail
        go_ret
        exact ⟨rfl, hv⟩
      · simp only [if_true]
        go_enter Try.func29, Try.ntmps29
        go_wp2_with fail
        obtain ⟨w1, hw1⟩ : ∃ w1, w.alloc (.cells #[.int .i64 n] 3) = w1 := ⟨_, rfl⟩
        try rw [hw1]
        have hB : Below w.heap.size w w1 := by rw [← hw1]; exact (Below.refl _ w).alloc (by first | exact Nat.le_refl _ | (simp; done) | (simp; omega)) _
        have kx : w1.heap[w.heap.size]? = some (.cells #[.int .i64 n] 3 (0, 0)) := by rw [← hw1]; exact al_new _ _ _ (by first | rfl | (simp; done) | (simp; omega))
        have x0 : w1.cell? ⟨w.heap.size, 0, none⟩ = some (.int .i64 n) := blk_cell kx 0
        clear kx
        replace hv := hv.trans (hB.mono hv.size)
        clear hB hw1
        have hs1 := World.block_lt_of_cell? _ _ x0
        go_wp2_with fail
        refine (c1 _).mono ?_
        rintro en w2 ⟨rfl, hB⟩
        replace x0 := cell_on hB x0
        replace hv := hv.trans (hB.mono hv.size)
        clear hB c1
        go_wp2_with fail
        have HC := Kd.C_below HR.out hv
        refine (c2 _ _ HC x0).mono ?_
        rintro en w3 ⟨rfl, hB⟩
        replace x0 := cell_on hB x0
        replace hv := hv.trans (hB.mono hv.size)
        clear hB c2
        go_wp2_with fail
        go_ret
        exact ⟨rfl, hv⟩
end Go.Proofs.Ytjgnadighdbjlaa.C
