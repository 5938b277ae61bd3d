/- awake, by hand. -/
import Derived.OwnWalk
import Derived.Deep.CutRange
import Derived.LoopN
import Derived.Deep.RegionHeld3
import Derived.Test.YtjgnadighdbjlaaDf
namespace Go.Proofs.Ytjgnadighdbjlaa.C
open Go.RowKit Go.Shelf Go.Maps Go.Proofs.YtjgnadighdbjlaaW.PrintWords Go.Proofs.YtjgnadighdbjlaaW.PrintLast Go.Proofs.YtjgnadighdbjlaaW.PrintMore
set_option linter.unusedVariables false
set_option linter.unusedSimpArgs false
attribute [local go_sem high] eqA43
set_option maxHeartbeats 8000000 in
set_option maxRecDepth 100000 in
theorem awake_calls (w : World) : Calls Try.prog 9 #[] w fun e w' => e = .returned (.bool true) ∧ Below w.heap.size w w' := by
  have hv := Below.refl w.heap.size w
  have s0 := fun w => Show_calls 1 0 0 100 1000 1 0 5 3 149 w
  simp only [ex_show0] at s0
  have s1 := fun w => Show_calls 1 0 0 100 1000 1 0 5 3 150 w
  simp only [ex_show1] at s1
  have s2 := fun w => Show_calls 1 0 0 100 1000 1 0 5 3 449 w
  simp only [ex_show2] at s2
  have s3 := fun w => Show_calls 1 0 0 100 1000 1 0 5 3 450 w
  simp only [ex_show3] at s3
  have s4 := fun w => Show_calls 1 0 0 100 1000 1 0 5 3 (-50) w
  simp only [ex_show4] at s4
  have s5 := fun w => Show_calls 1 0 0 100 1000 1 0 5 3 (-51) w
  simp only [ex_show5] at s5
  have s6 := fun w => Show_calls 1 0 0 100 1000 1 0 5 3 1049 w
  simp only [ex_show6] at s6
  have s7 := fun w => Show_calls 10 0 0 100 1000 1 0 5 3 7 w
  simp only [ex_show7] at s7
  have r0 := fun w => Resolve_calls 1 0 0 100 1000 1 0 100 0 900 w
  simp only [ex_res0] at r0
  have r1 := fun w => Resolve_calls 1 0 0 100 1000 1 0 100 140 900 w
  simp only [ex_res1] at r1
  have r2 := fun w => Resolve_calls 1 0 0 100 1000 1 0 100 0 1100 w
  simp only [ex_res2] at r2
  have r3 := fun w => Resolve_calls 1 0 0 100 1000 1 0 100 200 900 w
  simp only [ex_res3] at r3
  have r4 := fun w => Resolve_calls 10 0 0 100 1000 1 0 100 (-40) 40 w
  simp only [ex_res4] at r4
  have cu : ∀ (A : Option Addr) (c : Nat) (W : World), Kd.C (Kd.int .i64) W A 3 [400, -500, -400] → Calls Try.prog 22 #[.agg #[.int .i64 1, .int .i64 0, .int .i64 0, .int .i64 100, .int .i64 1000, .int .i64 1, .int .i64 0], .slice A 3 c, .int .i64 100] W fun e w' => ∃ A' c', e = .returned (.tuple #[.slice A' 3 c', .int .i64 0]) ∧ Kd.C (Kd.int .i64) w' A' 3 [400, 500, 600] ∧ Below W.heap.size W w' := by
    intro A c W h
    have t := Unwrap_calls 1 0 0 100 1000 1 0 A c [400, -500, -400] 100 W h
    rw [ex_unw.1, ex_unw.2] at t
    exact t
  have cs : ∀ (A1 A2 : Option Addr) (c1 c2 : Nat) (W : World), Kd.C (Kd.int .i64) W A1 3 [400, 500, 600] → Kd.C (Kd.int .i64) W A2 3 [400, 500, 600] → Calls Try.prog 28 #[.slice A1 3 c1, .slice A2 3 c2] W fun e w' => e = .returned (.bool true) ∧ Below W.heap.size W w' := by
    intro A1 A2 c1 c2 W h1 h2
    have t := sameInts_calls A1 A2 c1 c2 [400, 500, 600] [400, 500, 600] W h1 h2 (by decide)
    rw [decide_eq_true rfl] at t
    exact t
  go_enter Try.func9, Try.ntmps9
  go_wp2_with fail
  obtain ⟨w1, hw1⟩ : ∃ w1, (w.alloc (.cells #[.int .i64 1, .int .i64 0, .int .i64 0, .int .i64 100, .int .i64 1000, .int .i64 1, .int .i64 0] 51)).alloc (.cells #[.int .i64 149, .int .i64 100, .int .i64 150, .int .i64 200, .int .i64 449, .int .i64 400, .int .i64 450, .int .i64 (-500), .int .i64 (-50), .int .i64 0, .int .i64 (-51), .int .i64 (-100), .int .i64 1049, .int .i64 0] 72) = w1 := ⟨_, rfl⟩
  try rw [hw1]
  have hB : Below w.heap.size w w1 := by rw [← hw1]; exact ((Below.refl _ w).alloc (by first | exact Nat.le_refl _ | (simp; done) | (simp; omega)) _).alloc (by first | exact Nat.le_refl _ | (simp; done) | (simp; omega)) _
  have kx : w1.heap[w.heap.size]? = some (.cells #[.int .i64 1, .int .i64 0, .int .i64 0, .int .i64 100, .int .i64 1000, .int .i64 1, .int .i64 0] 51 (0, 0)) := by rw [← hw1]; exact al_old (al_new _ _ _ (by first | rfl | (simp; done) | (simp; omega)))
  have x0 : w1.cell? ⟨w.heap.size, 0, none⟩ = some (.int .i64 1) := blk_cell kx 0
  have x1 : w1.cell? ⟨w.heap.size, 1, none⟩ = some (.int .i64 0) := blk_cell kx 1
  have x2 : w1.cell? ⟨w.heap.size, 2, none⟩ = some (.int .i64 0) := blk_cell kx 2
  have x3 : w1.cell? ⟨w.heap.size, 3, none⟩ = some (.int .i64 100) := blk_cell kx 3
  have x4 : w1.cell? ⟨w.heap.size, 4, none⟩ = some (.int .i64 1000) := blk_cell kx 4
  have x5 : w1.cell? ⟨w.heap.size, 5, none⟩ = some (.int .i64 1) := blk_cell kx 5
  have x6 : w1.cell? ⟨w.heap.size, 6, none⟩ = some (.int .i64 0) := blk_cell kx 6
  have kr : w1.heap[w.heap.size + 1]? = some (.cells #[.int .i64 149, .int .i64 100, .int .i64 150, .int .i64 200, .int .i64 449, .int .i64 400, .int .i64 450, .int .i64 (-500), .int .i64 (-50), .int .i64 0, .int .i64 (-51), .int .i64 (-100), .int .i64 1049, .int .i64 0] 72 (0, 0)) := by rw [← hw1]; exact al_new _ _ _ (by first | rfl | (simp; done) | (simp; omega))
  have r0 : w1.cell? ⟨w.heap.size + 1, 0, none⟩ = some (.int .i64 149) := blk_cell kr 0
  have r1 : w1.cell? ⟨w.heap.size + 1, 1, none⟩ = some (.int .i64 100) := blk_cell kr 1
  have r2 : w1.cell? ⟨w.heap.size + 1, 2, none⟩ = some (.int .i64 150) := blk_cell kr 2
  have r3 : w1.cell? ⟨w.heap.size + 1, 3, none⟩ = some (.int .i64 200) := blk_cell kr 3
  have r4 : w1.cell? ⟨w.heap.size + 1, 4, none⟩ = some (.int .i64 449) := blk_cell kr 4
  have r5 : w1.cell? ⟨w.heap.size + 1, 5, none⟩ = some (.int .i64 400) := blk_cell kr 5
  have r6 : w1.cell? ⟨w.heap.size + 1, 6, none⟩ = some (.int .i64 450) := blk_cell kr 6
  have r7 : w1.cell? ⟨w.heap.size + 1, 7, none⟩ = some (.int .i64 (-500)) := blk_cell kr 7
  have r8 : w1.cell? ⟨w.heap.size + 1, 8, none⟩ = some (.int .i64 (-50)) := blk_cell kr 8
  have r9 : w1.cell? ⟨w.heap.size + 1, 9, none⟩ = some (.int .i64 0) := blk_cell kr 9
  have r10 : w1.cell? ⟨w.heap.size + 1, 10, none⟩ = some (.int .i64 (-51)) := blk_cell kr 10
  have r11 : w1.cell? ⟨w.heap.size + 1, 11, none⟩ = some (.int .i64 (-100)) := blk_cell kr 11
  have r12 : w1.cell? ⟨w.heap.size + 1, 12, none⟩ = some (.int .i64 1049) := blk_cell kr 12
  have r13 : w1.cell? ⟨w.heap.size + 1, 13, none⟩ = some (.int .i64 0) := blk_cell kr 13
  clear r0 r1 r2 r3 r4 r5 r6 r7 r8 r9 r10 r11 r12 r13
  replace hv := hv.trans (hB.mono hv.size)
  clear hB hw1
  refine wp_loop_rounds 8 ?_
  rw [rounds_succ]
  have hx := World.block_lt_of_cell? _ _ x0
  have a0 : w1.cell? ⟨w.heap.size + 1, 0, none⟩ = some (.int .i64 149) := blk_cell kr 0
  have a1 : w1.cell? ⟨w.heap.size + 1, 1, none⟩ = some (.int .i64 100) := blk_cell kr 1
  go_wp2_with fail
  clear a0 a1 hx
  obtain ⟨w2, hw2⟩ : ∃ w2, w1.alloc (.cells #[.int .i64 149, .int .i64 100] 72) = w2 := ⟨_, rfl⟩
  try rw [hw2]
  have hB : Below w1.heap.size w1 w2 := by rw [← hw2]; exact (Below.refl _ w1).alloc (by first | exact Nat.le_refl _ | (simp; done) | (simp; omega)) _
  have ky : w2.heap[w1.heap.size]? = some (.cells #[.int .i64 149, .int .i64 100] 72 (0, 0)) := by rw [← hw2]; exact al_new _ _ _ (by first | rfl | (simp; done) | (simp; omega))
  have y0 : w2.cell? ⟨w1.heap.size, 0, none⟩ = some (.int .i64 149) := blk_cell ky 0
  have y1 : w2.cell? ⟨w1.heap.size, 1, none⟩ = some (.int .i64 100) := blk_cell ky 1
  clear ky
  replace kx := blk_on hB kx
  replace kr := blk_on hB kr
  replace x0 := cell_on hB x0
  replace x1 := cell_on hB x1
  replace x2 := cell_on hB x2
  replace x3 := cell_on hB x3
  replace x4 := cell_on hB x4
  replace x5 := cell_on hB x5
  replace x6 := cell_on hB x6
  replace hv := hv.trans (hB.mono hv.size)
  clear hB hw2
  refine (s0 _).mono ?_
  rintro en w3 ⟨rfl, hB⟩
  replace kx := blk_on hB kx
  replace kr := blk_on hB kr
  replace x0 := cell_on hB x0
  replace x1 := cell_on hB x1
  replace x2 := cell_on hB x2
  replace x3 := cell_on hB x3
  replace x4 := cell_on hB x4
  replace x5 := cell_on hB x5
  replace x6 := cell_on hB x6
  replace y0 := cell_on hB y0
  replace y1 := cell_on hB y1
  replace hv := hv.trans (hB.mono hv.size)
  clear hB s0
  go_wp2_with fail
  clear y0 y1
  rw [rounds_succ]
  have hx := World.block_lt_of_cell? _ _ x0
  have a0 : w3.cell? ⟨w.heap.size + 1, 2, none⟩ = some (.int .i64 150) := blk_cell kr 2
  have a1 : w3.cell? ⟨w.heap.size + 1, 3, none⟩ = some (.int .i64 200) := blk_cell kr 3
  go_wp2_with fail
  clear a0 a1 hx
  obtain ⟨w4, hw4⟩ : ∃ w4, w3.alloc (.cells #[.int .i64 150, .int .i64 200] 72) = w4 := ⟨_, rfl⟩
  try rw [hw4]
  have hB : Below w3.heap.size w3 w4 := by rw [← hw4]; exact (Below.refl _ w3).alloc (by first | exact Nat.le_refl _ | (simp; done) | (simp; omega)) _
  have ky : w4.heap[w3.heap.size]? = some (.cells #[.int .i64 150, .int .i64 200] 72 (0, 0)) := by rw [← hw4]; exact al_new _ _ _ (by first | rfl | (simp; done) | (simp; omega))
  have y0 : w4.cell? ⟨w3.heap.size, 0, none⟩ = some (.int .i64 150) := blk_cell ky 0
  have y1 : w4.cell? ⟨w3.heap.size, 1, none⟩ = some (.int .i64 200) := blk_cell ky 1
  clear ky
  replace kx := blk_on hB kx
  replace kr := blk_on hB kr
  replace x0 := cell_on hB x0
  replace x1 := cell_on hB x1
  replace x2 := cell_on hB x2
  replace x3 := cell_on hB x3
  replace x4 := cell_on hB x4
  replace x5 := cell_on hB x5
  replace x6 := cell_on hB x6
  replace hv := hv.trans (hB.mono hv.size)
  clear hB hw4
  refine (s1 _).mono ?_
  rintro en w5 ⟨rfl, hB⟩
  replace kx := blk_on hB kx
  replace kr := blk_on hB kr
  replace x0 := cell_on hB x0
  replace x1 := cell_on hB x1
  replace x2 := cell_on hB x2
  replace x3 := cell_on hB x3
  replace x4 := cell_on hB x4
  replace x5 := cell_on hB x5
  replace x6 := cell_on hB x6
  replace y0 := cell_on hB y0
  replace y1 := cell_on hB y1
  replace hv := hv.trans (hB.mono hv.size)
  clear hB s1
  go_wp2_with fail
  clear y0 y1
  rw [rounds_succ]
  have hx := World.block_lt_of_cell? _ _ x0
  have a0 : w5.cell? ⟨w.heap.size + 1, 4, none⟩ = some (.int .i64 449) := blk_cell kr 4
  have a1 : w5.cell? ⟨w.heap.size + 1, 5, none⟩ = some (.int .i64 400) := blk_cell kr 5
  go_wp2_with fail
  clear a0 a1 hx
  obtain ⟨w6, hw6⟩ : ∃ w6, w5.alloc (.cells #[.int .i64 449, .int .i64 400] 72) = w6 := ⟨_, rfl⟩
  try rw [hw6]
  have hB : Below w5.heap.size w5 w6 := by rw [← hw6]; exact (Below.refl _ w5).alloc (by first | exact Nat.le_refl _ | (simp; done) | (simp; omega)) _
  have ky : w6.heap[w5.heap.size]? = some (.cells #[.int .i64 449, .int .i64 400] 72 (0, 0)) := by rw [← hw6]; exact al_new _ _ _ (by first | rfl | (simp; done) | (simp; omega))
  have y0 : w6.cell? ⟨w5.heap.size, 0, none⟩ = some (.int .i64 449) := blk_cell ky 0
  have y1 : w6.cell? ⟨w5.heap.size, 1, none⟩ = some (.int .i64 400) := blk_cell ky 1
  clear ky
  replace kx := blk_on hB kx
  replace kr := blk_on hB kr
  replace x0 := cell_on hB x0
  replace x1 := cell_on hB x1
  replace x2 := cell_on hB x2
  replace x3 := cell_on hB x3
  replace x4 := cell_on hB x4
  replace x5 := cell_on hB x5
  replace x6 := cell_on hB x6
  replace hv := hv.trans (hB.mono hv.size)
  clear hB hw6
  refine (s2 _).mono ?_
  rintro en w7 ⟨rfl, hB⟩
  replace kx := blk_on hB kx
  replace kr := blk_on hB kr
  replace x0 := cell_on hB x0
  replace x1 := cell_on hB x1
  replace x2 := cell_on hB x2
  replace x3 := cell_on hB x3
  replace x4 := cell_on hB x4
  replace x5 := cell_on hB x5
  replace x6 := cell_on hB x6
  replace y0 := cell_on hB y0
  replace y1 := cell_on hB y1
  replace hv := hv.trans (hB.mono hv.size)
  clear hB s2
  go_wp2_with fail
  clear y0 y1
  rw [rounds_succ]
  have hx := World.block_lt_of_cell? _ _ x0
  have a0 : w7.cell? ⟨w.heap.size + 1, 6, none⟩ = some (.int .i64 450) := blk_cell kr 6
  have a1 : w7.cell? ⟨w.heap.size + 1, 7, none⟩ = some (.int .i64 (-500)) := blk_cell kr 7
  go_wp2_with fail
  clear a0 a1 hx
  obtain ⟨w8, hw8⟩ : ∃ w8, w7.alloc (.cells #[.int .i64 450, .int .i64 (-500)] 72) = w8 := ⟨_, rfl⟩
  try rw [hw8]
  have hB : Below w7.heap.size w7 w8 := by rw [← hw8]; exact (Below.refl _ w7).alloc (by first | exact Nat.le_refl _ | (simp; done) | (simp; omega)) _
  have ky : w8.heap[w7.heap.size]? = some (.cells #[.int .i64 450, .int .i64 (-500)] 72 (0, 0)) := by rw [← hw8]; exact al_new _ _ _ (by first | rfl | (simp; done) | (simp; omega))
  have y0 : w8.cell? ⟨w7.heap.size, 0, none⟩ = some (.int .i64 450) := blk_cell ky 0
  have y1 : w8.cell? ⟨w7.heap.size, 1, none⟩ = some (.int .i64 (-500)) := blk_cell ky 1
  clear ky
  replace kx := blk_on hB kx
  replace kr := blk_on hB kr
  replace x0 := cell_on hB x0
  replace x1 := cell_on hB x1
  replace x2 := cell_on hB x2
  replace x3 := cell_on hB x3
  replace x4 := cell_on hB x4
  replace x5 := cell_on hB x5
  replace x6 := cell_on hB x6
  replace hv := hv.trans (hB.mono hv.size)
  clear hB hw8
  refine (s3 _).mono ?_
  rintro en w9 ⟨rfl, hB⟩
  replace kx := blk_on hB kx
  replace kr := blk_on hB kr
  replace x0 := cell_on hB x0
  replace x1 := cell_on hB x1
  replace x2 := cell_on hB x2
  replace x3 := cell_on hB x3
  replace x4 := cell_on hB x4
  replace x5 := cell_on hB x5
  replace x6 := cell_on hB x6
  replace y0 := cell_on hB y0
  replace y1 := cell_on hB y1
  replace hv := hv.trans (hB.mono hv.size)
  clear hB s3
  go_wp2_with fail
  clear y0 y1
  rw [rounds_succ]
  have hx := World.block_lt_of_cell? _ _ x0
  have a0 : w9.cell? ⟨w.heap.size + 1, 8, none⟩ = some (.int .i64 (-50)) := blk_cell kr 8
  have a1 : w9.cell? ⟨w.heap.size + 1, 9, none⟩ = some (.int .i64 0) := blk_cell kr 9
  go_wp2_with fail
  clear a0 a1 hx
  obtain ⟨w10, hw10⟩ : ∃ w10, w9.alloc (.cells #[.int .i64 (-50), .int .i64 0] 72) = w10 := ⟨_, rfl⟩
  try rw [hw10]
  have hB : Below w9.heap.size w9 w10 := by rw [← hw10]; exact (Below.refl _ w9).alloc (by first | exact Nat.le_refl _ | (simp; done) | (simp; omega)) _
  have ky : w10.heap[w9.heap.size]? = some (.cells #[.int .i64 (-50), .int .i64 0] 72 (0, 0)) := by rw [← hw10]; exact al_new _ _ _ (by first | rfl | (simp; done) | (simp; omega))
  have y0 : w10.cell? ⟨w9.heap.size, 0, none⟩ = some (.int .i64 (-50)) := blk_cell ky 0
  have y1 : w10.cell? ⟨w9.heap.size, 1, none⟩ = some (.int .i64 0) := blk_cell ky 1
  clear ky
  replace kx := blk_on hB kx
  replace kr := blk_on hB kr
  replace x0 := cell_on hB x0
  replace x1 := cell_on hB x1
  replace x2 := cell_on hB x2
  replace x3 := cell_on hB x3
  replace x4 := cell_on hB x4
  replace x5 := cell_on hB x5
  replace x6 := cell_on hB x6
  replace hv := hv.trans (hB.mono hv.size)
  clear hB hw10
  refine (s4 _).mono ?_
  rintro en w11 ⟨rfl, hB⟩
  replace kx := blk_on hB kx
  replace kr := blk_on hB kr
  replace x0 := cell_on hB x0
  replace x1 := cell_on hB x1
  replace x2 := cell_on hB x2
  replace x3 := cell_on hB x3
  replace x4 := cell_on hB x4
  replace x5 := cell_on hB x5
  replace x6 := cell_on hB x6
  replace y0 := cell_on hB y0
  replace y1 := cell_on hB y1
  replace hv := hv.trans (hB.mono hv.size)
  clear hB s4
  go_wp2_with fail
  clear y0 y1
  rw [rounds_succ]
  have hx := World.block_lt_of_cell? _ _ x0
  have a0 : w11.cell? ⟨w.heap.size + 1, 10, none⟩ = some (.int .i64 (-51)) := blk_cell kr 10
  have a1 : w11.cell? ⟨w.heap.size + 1, 11, none⟩ = some (.int .i64 (-100)) := blk_cell kr 11
  go_wp2_with fail
  clear a0 a1 hx
  obtain ⟨w12, hw12⟩ : ∃ w12, w11.alloc (.cells #[.int .i64 (-51), .int .i64 (-100)] 72) = w12 := ⟨_, rfl⟩
  try rw [hw12]
  have hB : Below w11.heap.size w11 w12 := by rw [← hw12]; exact (Below.refl _ w11).alloc (by first | exact Nat.le_refl _ | (simp; done) | (simp; omega)) _
  have ky : w12.heap[w11.heap.size]? = some (.cells #[.int .i64 (-51), .int .i64 (-100)] 72 (0, 0)) := by rw [← hw12]; exact al_new _ _ _ (by first | rfl | (simp; done) | (simp; omega))
  have y0 : w12.cell? ⟨w11.heap.size, 0, none⟩ = some (.int .i64 (-51)) := blk_cell ky 0
  have y1 : w12.cell? ⟨w11.heap.size, 1, none⟩ = some (.int .i64 (-100)) := blk_cell ky 1
  clear ky
  replace kx := blk_on hB kx
  replace kr := blk_on hB kr
  replace x0 := cell_on hB x0
  replace x1 := cell_on hB x1
  replace x2 := cell_on hB x2
  replace x3 := cell_on hB x3
  replace x4 := cell_on hB x4
  replace x5 := cell_on hB x5
  replace x6 := cell_on hB x6
  replace hv := hv.trans (hB.mono hv.size)
  clear hB hw12
  refine (s5 _).mono ?_
  rintro en w13 ⟨rfl, hB⟩
  replace kx := blk_on hB kx
  replace kr := blk_on hB kr
  replace x0 := cell_on hB x0
  replace x1 := cell_on hB x1
  replace x2 := cell_on hB x2
  replace x3 := cell_on hB x3
  replace x4 := cell_on hB x4
  replace x5 := cell_on hB x5
  replace x6 := cell_on hB x6
  replace y0 := cell_on hB y0
  replace y1 := cell_on hB y1
  replace hv := hv.trans (hB.mono hv.size)
  clear hB s5
  go_wp2_with fail
  clear y0 y1
  rw [rounds_succ]
  have hx := World.block_lt_of_cell? _ _ x0
  have a0 : w13.cell? ⟨w.heap.size + 1, 12, none⟩ = some (.int .i64 1049) := blk_cell kr 12
  have a1 : w13.cell? ⟨w.heap.size + 1, 13, none⟩ = some (.int .i64 0) := blk_cell kr 13
  go_wp2_with fail
  clear a0 a1 hx
  obtain ⟨w14, hw14⟩ : ∃ w14, w13.alloc (.cells #[.int .i64 1049, .int .i64 0] 72) = w14 := ⟨_, rfl⟩
  try rw [hw14]
  have hB : Below w13.heap.size w13 w14 := by rw [← hw14]; exact (Below.refl _ w13).alloc (by first | exact Nat.le_refl _ | (simp; done) | (simp; omega)) _
  have ky : w14.heap[w13.heap.size]? = some (.cells #[.int .i64 1049, .int .i64 0] 72 (0, 0)) := by rw [← hw14]; exact al_new _ _ _ (by first | rfl | (simp; done) | (simp; omega))
  have y0 : w14.cell? ⟨w13.heap.size, 0, none⟩ = some (.int .i64 1049) := blk_cell ky 0
  have y1 : w14.cell? ⟨w13.heap.size, 1, none⟩ = some (.int .i64 0) := blk_cell ky 1
  clear ky
  replace kx := blk_on hB kx
  replace kr := blk_on hB kr
  replace x0 := cell_on hB x0
  replace x1 := cell_on hB x1
  replace x2 := cell_on hB x2
  replace x3 := cell_on hB x3
  replace x4 := cell_on hB x4
  replace x5 := cell_on hB x5
  replace x6 := cell_on hB x6
  replace hv := hv.trans (hB.mono hv.size)
  clear hB hw14
  refine (s6 _).mono ?_
  rintro en w15 ⟨rfl, hB⟩
  replace kx := blk_on hB kx
  replace kr := blk_on hB kr
  replace x0 := cell_on hB x0
  replace x1 := cell_on hB x1
  replace x2 := cell_on hB x2
  replace x3 := cell_on hB x3
  replace x4 := cell_on hB x4
  replace x5 := cell_on hB x5
  replace x6 := cell_on hB x6
  replace y0 := cell_on hB y0
  replace y1 := cell_on hB y1
  replace hv := hv.trans (hB.mono hv.size)
  clear hB s6
  go_wp2_with fail
  clear y0 y1
  rw [rounds_succ]
  go_wp2_with fail
  clear kr
  refine (r0 _).mono ?_
  rintro en w16 ⟨rfl, hB⟩
  replace kx := blk_on hB kx
  replace x0 := cell_on hB x0
  replace x1 := cell_on hB x1
  replace x2 := cell_on hB x2
  replace x3 := cell_on hB x3
  replace x4 := cell_on hB x4
  replace x5 := cell_on hB x5
  replace x6 := cell_on hB x6
  replace hv := hv.trans (hB.mono hv.size)
  clear hB r0
  have hx := World.block_lt_of_cell? _ _ x0
  go_wp2_with fail
  clear hx
  have hs16 := hv.size
  obtain ⟨w17, hw17⟩ : ∃ w17, w16.alloc (.cells #[.int .i64 50, .int .i64 150] 43) = w17 := ⟨_, rfl⟩
  try rw [hw17]
  have hB : Below w16.heap.size w16 w17 := by rw [← hw17]; exact (Below.refl _ w16).alloc (by first | exact Nat.le_refl _ | (simp; done) | (simp; omega)) _
  have kp : w17.heap[w16.heap.size]? = some (.cells #[.int .i64 50, .int .i64 150] 43 (0, 0)) := by rw [← hw17]; exact al_new _ _ _ (by first | rfl | (simp; done) | (simp; omega))
  have p0 : w17.cell? ⟨w16.heap.size, 0, none⟩ = some (.int .i64 50) := blk_cell kp 0
  have p1 : w17.cell? ⟨w16.heap.size, 1, none⟩ = some (.int .i64 150) := blk_cell kp 1
  replace kx := blk_on hB kx
  replace x0 := cell_on hB x0
  replace x1 := cell_on hB x1
  replace x2 := cell_on hB x2
  replace x3 := cell_on hB x3
  replace x4 := cell_on hB x4
  replace x5 := cell_on hB x5
  replace x6 := cell_on hB x6
  replace hv := hv.trans (hB.mono hv.size)
  clear hB hw17
  refine (r1 _).mono ?_
  rintro en w18 ⟨rfl, hB⟩
  replace kx := blk_on hB kx
  replace kp := blk_on hB kp
  replace x0 := cell_on hB x0
  replace x1 := cell_on hB x1
  replace x2 := cell_on hB x2
  replace x3 := cell_on hB x3
  replace x4 := cell_on hB x4
  replace x5 := cell_on hB x5
  replace x6 := cell_on hB x6
  replace p0 := cell_on hB p0
  replace p1 := cell_on hB p1
  replace hv := hv.trans (hB.mono hv.size)
  clear hB r1
  have hx := World.block_lt_of_cell? _ _ x0
  go_wp2_with fail
  clear hx
  obtain ⟨w19, hw19⟩ : ∃ w19, w18.alloc (.cells #[.int .i64 140, .int .i64 150] 43) = w19 := ⟨_, rfl⟩
  try rw [hw19]
  have hB : Below w18.heap.size w18 w19 := by rw [← hw19]; exact (Below.refl _ w18).alloc (by first | exact Nat.le_refl _ | (simp; done) | (simp; omega)) _
  have kq : w19.heap[w18.heap.size]? = some (.cells #[.int .i64 140, .int .i64 150] 43 (0, 0)) := by rw [← hw19]; exact al_new _ _ _ (by first | rfl | (simp; done) | (simp; omega))
  have q0 : w19.cell? ⟨w18.heap.size, 0, none⟩ = some (.int .i64 140) := blk_cell kq 0
  have q1 : w19.cell? ⟨w18.heap.size, 1, none⟩ = some (.int .i64 150) := blk_cell kq 1
  replace kx := blk_on hB kx
  replace kp := blk_on hB kp
  replace x0 := cell_on hB x0
  replace x1 := cell_on hB x1
  replace x2 := cell_on hB x2
  replace x3 := cell_on hB x3
  replace x4 := cell_on hB x4
  replace x5 := cell_on hB x5
  replace x6 := cell_on hB x6
  replace p0 := cell_on hB p0
  replace p1 := cell_on hB p1
  replace hv := hv.trans (hB.mono hv.size)
  clear hB hw19
  refine (r2 _).mono ?_
  rintro en w20 ⟨rfl, hB⟩
  replace kx := blk_on hB kx
  replace kp := blk_on hB kp
  replace kq := blk_on hB kq
  replace x0 := cell_on hB x0
  replace x1 := cell_on hB x1
  replace x2 := cell_on hB x2
  replace x3 := cell_on hB x3
  replace x4 := cell_on hB x4
  replace x5 := cell_on hB x5
  replace x6 := cell_on hB x6
  replace p0 := cell_on hB p0
  replace p1 := cell_on hB p1
  replace q0 := cell_on hB q0
  replace q1 := cell_on hB q1
  replace hv := hv.trans (hB.mono hv.size)
  clear hB r2
  have hx := World.block_lt_of_cell? _ _ x0
  go_wp2_with fail
  clear hx
  obtain ⟨w21, hw21⟩ : ∃ w21, w20.alloc (.cells #[.int .i64 0, .int .i64 0] 43) = w21 := ⟨_, rfl⟩
  try rw [hw21]
  have hB : Below w20.heap.size w20 w21 := by rw [← hw21]; exact (Below.refl _ w20).alloc (by first | exact Nat.le_refl _ | (simp; done) | (simp; omega)) _
  replace kx := blk_on hB kx
  replace kp := blk_on hB kp
  replace kq := blk_on hB kq
  replace x0 := cell_on hB x0
  replace x1 := cell_on hB x1
  replace x2 := cell_on hB x2
  replace x3 := cell_on hB x3
  replace x4 := cell_on hB x4
  replace x5 := cell_on hB x5
  replace x6 := cell_on hB x6
  replace p0 := cell_on hB p0
  replace p1 := cell_on hB p1
  replace q0 := cell_on hB q0
  replace q1 := cell_on hB q1
  replace hv := hv.trans (hB.mono hv.size)
  clear hB hw21
  refine (r3 _).mono ?_
  rintro en w22 ⟨rfl, hB⟩
  replace kx := blk_on hB kx
  replace kp := blk_on hB kp
  replace kq := blk_on hB kq
  replace x0 := cell_on hB x0
  replace x1 := cell_on hB x1
  replace x2 := cell_on hB x2
  replace x3 := cell_on hB x3
  replace x4 := cell_on hB x4
  replace x5 := cell_on hB x5
  replace x6 := cell_on hB x6
  replace p0 := cell_on hB p0
  replace p1 := cell_on hB p1
  replace q0 := cell_on hB q0
  replace q1 := cell_on hB q1
  replace hv := hv.trans (hB.mono hv.size)
  clear hB r3
  have hx := World.block_lt_of_cell? _ _ x0
  go_wp2_with fail
  clear hx
  obtain ⟨w23, hw23⟩ : ∃ w23, (w22.alloc (.cells #[.int .i64 0, .int .i64 0] 43)).alloc (.cells #[.int .i64 400, .int .i64 (-500), .int .i64 (-400)] 3) = w23 := ⟨_, rfl⟩
  try rw [hw23]
  have hB : Below w22.heap.size w22 w23 := by rw [← hw23]; exact ((Below.refl _ w22).alloc (by first | exact Nat.le_refl _ | (simp; done) | (simp; omega)) _).alloc (by first | exact Nat.le_refl _ | (simp; done) | (simp; omega)) _
  have kl : w23.heap[w22.heap.size + 1]? = some (.cells #[.int .i64 400, .int .i64 (-500), .int .i64 (-400)] 3 (0, 0)) := by rw [← hw23]; exact al_new _ _ _ (by first | rfl | (simp; done) | (simp; omega))
  have l0 : w23.cell? ⟨w22.heap.size + 1, 0, none⟩ = some (.int .i64 400) := blk_cell kl 0
  have l1 : w23.cell? ⟨w22.heap.size + 1, 1, none⟩ = some (.int .i64 (-500)) := blk_cell kl 1
  have l2 : w23.cell? ⟨w22.heap.size + 1, 2, none⟩ = some (.int .i64 (-400)) := blk_cell kl 2
  replace kx := blk_on hB kx
  replace kp := blk_on hB kp
  replace kq := blk_on hB kq
  replace x0 := cell_on hB x0
  replace x1 := cell_on hB x1
  replace x2 := cell_on hB x2
  replace x3 := cell_on hB x3
  replace x4 := cell_on hB x4
  replace x5 := cell_on hB x5
  replace x6 := cell_on hB x6
  replace p0 := cell_on hB p0
  replace p1 := cell_on hB p1
  replace q0 := cell_on hB q0
  replace q1 := cell_on hB q1
  replace hv := hv.trans (hB.mono hv.size)
  clear hB hw23
  have hC := ints_C (xs := [400, -500, -400]) kl (by decide)
  clear l0 l1 l2
  have hws := hv.size
  refine (cu _ _ _ hC).mono ?_
  rintro en w24 ⟨Au, cu', rfl, hU, hB⟩
  replace kx := blk_on hB kx
  replace kp := blk_on hB kp
  replace kq := blk_on hB kq
  replace x0 := cell_on hB x0
  replace x1 := cell_on hB x1
  replace x2 := cell_on hB x2
  replace x3 := cell_on hB x3
  replace x4 := cell_on hB x4
  replace x5 := cell_on hB x5
  replace x6 := cell_on hB x6
  replace p0 := cell_on hB p0
  replace p1 := cell_on hB p1
  replace q0 := cell_on hB q0
  replace q1 := cell_on hB q1
  replace hv := hv.trans (hB.mono hv.size)
  clear hB cu hC kl
  go_wp2_with fail
  obtain ⟨w25, hw25⟩ : ∃ w25, w24.alloc (.cells #[.int .i64 400, .int .i64 500, .int .i64 600] 3) = w25 := ⟨_, rfl⟩
  try rw [hw25]
  have hB : Below w24.heap.size w24 w25 := by rw [← hw25]; exact (Below.refl _ w24).alloc (by first | exact Nat.le_refl _ | (simp; done) | (simp; omega)) _
  have km : w25.heap[w24.heap.size]? = some (.cells #[.int .i64 400, .int .i64 500, .int .i64 600] 3 (0, 0)) := by rw [← hw25]; exact al_new _ _ _ (by first | rfl | (simp; done) | (simp; omega))
  have m0 : w25.cell? ⟨w24.heap.size, 0, none⟩ = some (.int .i64 400) := blk_cell km 0
  have m1 : w25.cell? ⟨w24.heap.size, 1, none⟩ = some (.int .i64 500) := blk_cell km 1
  have m2 : w25.cell? ⟨w24.heap.size, 2, none⟩ = some (.int .i64 600) := blk_cell km 2
  replace kx := blk_on hB kx
  replace kp := blk_on hB kp
  replace kq := blk_on hB kq
  replace x0 := cell_on hB x0
  replace x1 := cell_on hB x1
  replace x2 := cell_on hB x2
  replace x3 := cell_on hB x3
  replace x4 := cell_on hB x4
  replace x5 := cell_on hB x5
  replace x6 := cell_on hB x6
  replace p0 := cell_on hB p0
  replace p1 := cell_on hB p1
  replace q0 := cell_on hB q0
  replace q1 := cell_on hB q1
  replace hU := Kd.C_below hU hB
  replace hv := hv.trans (hB.mono hv.size)
  clear hB hw25
  have hC := ints_C (xs := [400, 500, 600]) km (by decide)
  clear km
  refine (cs _ _ _ _ _ hU hC).mono ?_
  rintro en w26 ⟨rfl, hB⟩
  replace kx := blk_on hB kx
  replace kp := blk_on hB kp
  replace x0 := cell_on hB x0
  replace x1 := cell_on hB x1
  replace x2 := cell_on hB x2
  replace x3 := cell_on hB x3
  replace x4 := cell_on hB x4
  replace x5 := cell_on hB x5
  replace x6 := cell_on hB x6
  replace p0 := cell_on hB p0
  replace p1 := cell_on hB p1
  replace hv := hv.trans (hB.mono hv.size)
  clear hB cs hC hU m0 m1 m2 q0 q1 kq
  have kxc0 : w26.cell? ⟨w.heap.size, 0, none⟩ = some (.int .i64 1) := blk_cell kx 0
  have kxf0 : w26.frozen? ⟨w.heap.size, 0, none⟩ = false := blk_frozen kx 0
  have kxc1 : w26.cell? ⟨w.heap.size, 1, none⟩ = some (.int .i64 0) := blk_cell kx 1
  have kxf1 : w26.frozen? ⟨w.heap.size, 1, none⟩ = false := blk_frozen kx 1
  have kxc2 : w26.cell? ⟨w.heap.size, 2, none⟩ = some (.int .i64 0) := blk_cell kx 2
  have kxf2 : w26.frozen? ⟨w.heap.size, 2, none⟩ = false := blk_frozen kx 2
  have kxc3 : w26.cell? ⟨w.heap.size, 3, none⟩ = some (.int .i64 100) := blk_cell kx 3
  have kxf3 : w26.frozen? ⟨w.heap.size, 3, none⟩ = false := blk_frozen kx 3
  have kxc4 : w26.cell? ⟨w.heap.size, 4, none⟩ = some (.int .i64 1000) := blk_cell kx 4
  have kxf4 : w26.frozen? ⟨w.heap.size, 4, none⟩ = false := blk_frozen kx 4
  have kxc5 : w26.cell? ⟨w.heap.size, 5, none⟩ = some (.int .i64 1) := blk_cell kx 5
  have kxf5 : w26.frozen? ⟨w.heap.size, 5, none⟩ = false := blk_frozen kx 5
  have kxc6 : w26.cell? ⟨w.heap.size, 6, none⟩ = some (.int .i64 0) := blk_cell kx 6
  have kxf6 : w26.frozen? ⟨w.heap.size, 6, none⟩ = false := blk_frozen kx 6
  go_wp2_with fail
  clear x0 x1 x2 x3 x4 x5 x6 p0 p1 kxc0 kxc1 kxc2 kxc3 kxc4 kxc5 kxc6 kxf0 kxf1 kxf2 kxf3 kxf4 kxf5 kxf6
  obtain ⟨w27, hw27⟩ : ∃ w27, w26.setCell ⟨w.heap.size, 0, none⟩ (.int .i64 10) = w27 := ⟨_, rfl⟩
  try rw [hw27]
  replace kp : w27.heap[w16.heap.size]? = some (.cells #[.int .i64 50, .int .i64 150] 43 (0, 0)) := by rw [← hw27]; exact blk_far kp (blk_ne kp kx (by decide)) _
  replace kx : w27.heap[w.heap.size]? = some (.cells #[.int .i64 10, .int .i64 0, .int .i64 0, .int .i64 100, .int .i64 1000, .int .i64 1, .int .i64 0] 51 (0, 0)) := by rw [← hw27]; exact blk_put kx 0 _ rfl
  replace hv : Below w.heap.size w w27 := by rw [← hw27]; exact hv.setCell (by first | exact Nat.le_refl _ | (simp; done) | (simp; omega) | omega) _
  clear hw27
  refine (s7 _).mono ?_
  rintro en w28 ⟨rfl, hB⟩
  replace kx := blk_on hB kx
  replace kp := blk_on hB kp
  replace hv := hv.trans (hB.mono hv.size)
  clear hB s7
  have kxc0 : w28.cell? ⟨w.heap.size, 0, none⟩ = some (.int .i64 10) := blk_cell kx 0
  have kxf0 : w28.frozen? ⟨w.heap.size, 0, none⟩ = false := blk_frozen kx 0
  have kxc1 : w28.cell? ⟨w.heap.size, 1, none⟩ = some (.int .i64 0) := blk_cell kx 1
  have kxf1 : w28.frozen? ⟨w.heap.size, 1, none⟩ = false := blk_frozen kx 1
  have kxc2 : w28.cell? ⟨w.heap.size, 2, none⟩ = some (.int .i64 0) := blk_cell kx 2
  have kxf2 : w28.frozen? ⟨w.heap.size, 2, none⟩ = false := blk_frozen kx 2
  have kxc3 : w28.cell? ⟨w.heap.size, 3, none⟩ = some (.int .i64 100) := blk_cell kx 3
  have kxf3 : w28.frozen? ⟨w.heap.size, 3, none⟩ = false := blk_frozen kx 3
  have kxc4 : w28.cell? ⟨w.heap.size, 4, none⟩ = some (.int .i64 1000) := blk_cell kx 4
  have kxf4 : w28.frozen? ⟨w.heap.size, 4, none⟩ = false := blk_frozen kx 4
  have kxc5 : w28.cell? ⟨w.heap.size, 5, none⟩ = some (.int .i64 1) := blk_cell kx 5
  have kxf5 : w28.frozen? ⟨w.heap.size, 5, none⟩ = false := blk_frozen kx 5
  have kxc6 : w28.cell? ⟨w.heap.size, 6, none⟩ = some (.int .i64 0) := blk_cell kx 6
  have kxf6 : w28.frozen? ⟨w.heap.size, 6, none⟩ = false := blk_frozen kx 6
  go_wp2_with fail
  clear kxc0 kxc1 kxc2 kxc3 kxc4 kxc5 kxc6 kxf0 kxf1 kxf2 kxf3 kxf4 kxf5 kxf6
  refine (r4 _).mono ?_
  rintro en w29 ⟨rfl, hB⟩
  replace kx := blk_on hB kx
  replace kp := blk_on hB kp
  replace hv := hv.trans (hB.mono hv.size)
  clear hB r4
  have kpc0 : w29.cell? ⟨w16.heap.size, 0, none⟩ = some (.int .i64 50) := blk_cell kp 0
  have kpf0 : w29.frozen? ⟨w16.heap.size, 0, none⟩ = false := blk_frozen kp 0
  have kpc1 : w29.cell? ⟨w16.heap.size, 1, none⟩ = some (.int .i64 150) := blk_cell kp 1
  have kpf1 : w29.frozen? ⟨w16.heap.size, 1, none⟩ = false := blk_frozen kp 1
  go_wp2_with fail
  clear kpc0 kpc1 kpf0 kpf1
  obtain ⟨w30, hw30⟩ : ∃ x, ((w29.setCell ⟨w16.heap.size, 0, none⟩ (.int .i64 5)).setCell ⟨w16.heap.size, 1, none⟩ (.int .i64 15)).alloc (.cells #[.int .i64 0, .int .i64 1, .int .i64 1, .int .i64 3, .int .i64 1, .int .i64 2, .int .i64 1, .int .i64 3, .int .i64 0, .int .i64 2, .int .i64 5, .int .i64 9] 46) = x := ⟨_, rfl⟩
  rw [hw30]
  obtain ⟨gl, hgl⟩ : ∃ x, w29.heap.size = x := ⟨_, rfl⟩
  rw [hgl]
  have hgw : w.heap.size ≤ gl := by rw [← hgl]; exact hv.size
  have kl : w30.heap[gl]? = some (.cells #[.int .i64 0, .int .i64 1, .int .i64 1, .int .i64 3, .int .i64 1, .int .i64 2, .int .i64 1, .int .i64 3, .int .i64 0, .int .i64 2, .int .i64 5, .int .i64 9] 46 (0, 0)) := by rw [← hw30, ← hgl]; exact al_new _ _ _ (by simp [World.setCell])
  replace hv : Below w.heap.size w w30 := by rw [← hw30]; exact ((hv.setCell hs16 _).setCell hs16 _).alloc (by simp [World.setCell]; omega) _
  clear hw30 kp kx hgl hs16
  refine (aw_narrow1 _ _ _ (bounds_C (xs := lA) kl (by decide))).mono ?_
  rintro en w31 ⟨gd, cap, rfl, hL, hB⟩
  replace kl := blk_on hB kl
  replace hv := hv.trans (hB.mono hv.size)
  clear hB
  go_wp2_with fail
  obtain ⟨w32, hw32⟩ : ∃ w32, (((w31.alloc (.cells #[.int .i64 0, .int .i64 3, .int .i64 6] 3)).alloc (.cells #[.int .i64 (-2), .int .i64 0, .int .i64 3] 3)).alloc (.cells #[.int .i64 (-5), .int .i64 (-2), .int .i64 0] 3)).alloc (.cells #[.slice (some ⟨w31.heap.size, 0, none⟩) 3 3, .slice (some ⟨w31.heap.size + 1, 0, none⟩) 3 3, .slice (some ⟨w31.heap.size + 1 + 1, 0, none⟩) 3 3] 59) = w32 := ⟨_, rfl⟩
  try rw [hw32]
  have hB : Below w31.heap.size w31 w32 := by rw [← hw32]; exact ((((Below.refl _ w31).alloc (by first | exact Nat.le_refl _ | (simp; done) | (simp; omega)) _).alloc (by first | exact Nat.le_refl _ | (simp; done) | (simp; omega)) _).alloc (by first | exact Nat.le_refl _ | (simp; done) | (simp; omega)) _).alloc (by first | exact Nat.le_refl _ | (simp; done) | (simp; omega)) _
  have kA : w32.heap[w31.heap.size]? = some (.cells #[.int .i64 0, .int .i64 3, .int .i64 6] 3 (0, 0)) := by rw [← hw32]; exact al_old (al_old (al_old (al_new _ _ _ (by first | rfl | (simp; done) | (simp; omega)))))
  have A0 : w32.cell? ⟨w31.heap.size, 0, none⟩ = some (.int .i64 0) := blk_cell kA 0
  have A1 : w32.cell? ⟨w31.heap.size, 1, none⟩ = some (.int .i64 3) := blk_cell kA 1
  have A2 : w32.cell? ⟨w31.heap.size, 2, none⟩ = some (.int .i64 6) := blk_cell kA 2
  have kB : w32.heap[w31.heap.size + 1]? = some (.cells #[.int .i64 (-2), .int .i64 0, .int .i64 3] 3 (0, 0)) := by rw [← hw32]; exact al_old (al_old (al_new _ _ _ (by first | rfl | (simp; done) | (simp; omega))))
  have B0 : w32.cell? ⟨w31.heap.size + 1, 0, none⟩ = some (.int .i64 (-2)) := blk_cell kB 0
  have B1 : w32.cell? ⟨w31.heap.size + 1, 1, none⟩ = some (.int .i64 0) := blk_cell kB 1
  have B2 : w32.cell? ⟨w31.heap.size + 1, 2, none⟩ = some (.int .i64 3) := blk_cell kB 2
  have kC : w32.heap[w31.heap.size + 1 + 1]? = some (.cells #[.int .i64 (-5), .int .i64 (-2), .int .i64 0] 3 (0, 0)) := by rw [← hw32]; exact al_old (al_new _ _ _ (by first | rfl | (simp; done) | (simp; omega)))
  have C0 : w32.cell? ⟨w31.heap.size + 1 + 1, 0, none⟩ = some (.int .i64 (-5)) := blk_cell kC 0
  have C1 : w32.cell? ⟨w31.heap.size + 1 + 1, 1, none⟩ = some (.int .i64 (-2)) := blk_cell kC 1
  have C2 : w32.cell? ⟨w31.heap.size + 1 + 1, 2, none⟩ = some (.int .i64 0) := blk_cell kC 2
  have kD : w32.heap[w31.heap.size + 1 + 1 + 1]? = some (.cells #[.slice (some ⟨w31.heap.size, 0, none⟩) 3 3, .slice (some ⟨w31.heap.size + 1, 0, none⟩) 3 3, .slice (some ⟨w31.heap.size + 1 + 1, 0, none⟩) 3 3] 59 (0, 0)) := by rw [← hw32]; exact al_new _ _ _ (by first | rfl | (simp; done) | (simp; omega))
  have D0 : w32.cell? ⟨w31.heap.size + 1 + 1 + 1, 0, none⟩ = some (.slice (some ⟨w31.heap.size, 0, none⟩) 3 3) := blk_cell kD 0
  have D1 : w32.cell? ⟨w31.heap.size + 1 + 1 + 1, 1, none⟩ = some (.slice (some ⟨w31.heap.size + 1, 0, none⟩) 3 3) := blk_cell kD 1
  have D2 : w32.cell? ⟨w31.heap.size + 1 + 1 + 1, 2, none⟩ = some (.slice (some ⟨w31.heap.size + 1 + 1, 0, none⟩) 3 3) := blk_cell kD 2
  replace kl := blk_on hB kl
  replace hv := hv.trans (hB.mono hv.size)
  replace hL := hL.below hB
  clear hB hw32
  have hL2 := LL3 (l1 := [0, 3, 6]) (l2 := [-2, 0, 3]) (l3 := [-5, -2, 0]) kD (ints_C (xs := [0, 3, 6]) kA (by decide)) (ints_C (xs := [-2, 0, 3]) kB (by decide)) (ints_C (xs := [-5, -2, 0]) kC (by decide))
  have cl := sameLists_calls (some ⟨gd, 0, none⟩) _ cap 3 [[0, 3, 6], [-2, 0, 3], [-5, -2, 0]] _ _ hL hL2 (by decide) (by decide) (by decide)
  rw [decide_eq_true rfl] at cl
  clear kA kB kC kD hL hL2 A0 A1 A2 B0 B1 B2 C0 C1 C2 D0 D1 D2
  refine Calls.mono cl ?_
  rintro en w33 ⟨rfl, hB⟩
  replace kl := blk_on hB kl
  replace hv := hv.trans (hB.mono hv.size)
  clear hB cl
  have klc0 : w33.cell? ⟨gl, 0, none⟩ = some (.int .i64 0) := blk_cell kl 0
  have klf0 : w33.frozen? ⟨gl, 0, none⟩ = false := blk_frozen kl 0
  have klc1 : w33.cell? ⟨gl, 1, none⟩ = some (.int .i64 1) := blk_cell kl 1
  have klf1 : w33.frozen? ⟨gl, 1, none⟩ = false := blk_frozen kl 1
  have klc2 : w33.cell? ⟨gl, 2, none⟩ = some (.int .i64 1) := blk_cell kl 2
  have klf2 : w33.frozen? ⟨gl, 2, none⟩ = false := blk_frozen kl 2
  have klc3 : w33.cell? ⟨gl, 3, none⟩ = some (.int .i64 3) := blk_cell kl 3
  have klf3 : w33.frozen? ⟨gl, 3, none⟩ = false := blk_frozen kl 3
  have klc4 : w33.cell? ⟨gl, 4, none⟩ = some (.int .i64 1) := blk_cell kl 4
  have klf4 : w33.frozen? ⟨gl, 4, none⟩ = false := blk_frozen kl 4
  have klc5 : w33.cell? ⟨gl, 5, none⟩ = some (.int .i64 2) := blk_cell kl 5
  have klf5 : w33.frozen? ⟨gl, 5, none⟩ = false := blk_frozen kl 5
  have klc6 : w33.cell? ⟨gl, 6, none⟩ = some (.int .i64 1) := blk_cell kl 6
  have klf6 : w33.frozen? ⟨gl, 6, none⟩ = false := blk_frozen kl 6
  have klc7 : w33.cell? ⟨gl, 7, none⟩ = some (.int .i64 3) := blk_cell kl 7
  have klf7 : w33.frozen? ⟨gl, 7, none⟩ = false := blk_frozen kl 7
  have klc8 : w33.cell? ⟨gl, 8, none⟩ = some (.int .i64 0) := blk_cell kl 8
  have klf8 : w33.frozen? ⟨gl, 8, none⟩ = false := blk_frozen kl 8
  have klc9 : w33.cell? ⟨gl, 9, none⟩ = some (.int .i64 2) := blk_cell kl 9
  have klf9 : w33.frozen? ⟨gl, 9, none⟩ = false := blk_frozen kl 9
  have klc10 : w33.cell? ⟨gl, 10, none⟩ = some (.int .i64 5) := blk_cell kl 10
  have klf10 : w33.frozen? ⟨gl, 10, none⟩ = false := blk_frozen kl 10
  have klc11 : w33.cell? ⟨gl, 11, none⟩ = some (.int .i64 9) := blk_cell kl 11
  have klf11 : w33.frozen? ⟨gl, 11, none⟩ = false := blk_frozen kl 11
  go_wp2_with fail
  clear klc0 klc1 klc2 klc3 klc4 klc5 klc6 klc7 klc8 klc9 klc10 klc11 klf0 klf1 klf2 klf3 klf4 klf5 klf6 klf7 klf8 klf9 klf10 klf11
  obtain ⟨w34, hw34⟩ : ∃ w34, w33.setCell ⟨gl, 10, none⟩ (.int .i64 7) = w34 := ⟨_, rfl⟩
  try rw [hw34]
  replace kl : w34.heap[gl]? = some (.cells #[.int .i64 0, .int .i64 1, .int .i64 1, .int .i64 3, .int .i64 1, .int .i64 2, .int .i64 1, .int .i64 3, .int .i64 0, .int .i64 2, .int .i64 7, .int .i64 9] 46 (0, 0)) := by rw [← hw34]; exact blk_put kl 10 _ rfl
  replace hv : Below w.heap.size w w34 := by rw [← hw34]; exact hv.setCell (by first | exact Nat.le_refl _ | (simp; done) | (simp; omega) | omega) _
  clear hw34
  refine (aw_narrow2 _ _ _ (bounds_C (xs := lB) kl (by decide))).mono ?_
  rintro en w35 ⟨rfl, hB⟩
  replace kl := blk_on hB kl
  replace hv := hv.trans (hB.mono hv.size)
  clear hB
  go_wp2_with fail
  refine (aw_contradict _ _ _ (bounds_C (xs := lB) kl (by decide))).mono ?_
  rintro en w36 ⟨Ax, cx, u, rfl, ⟨hU, hul, hz⟩, hB⟩
  replace kl := blk_on hB kl
  replace hv := hv.trans (hB.mono hv.size)
  clear hB
  go_wp2_with fail
  refine (aw_refute _ _ _ _ u _ (bounds_C (xs := lB) kl (by decide)) hU hul hz).mono ?_
  rintro en w37 ⟨rfl, hB⟩
  replace kl := blk_on hB kl
  replace hv := hv.trans (hB.mono hv.size)
  clear hB hU hul hz
  go_wp2_with fail
  obtain ⟨w38, hw38⟩ : ∃ w38, w37.alloc (.cells #[.int .i64 2, .bool false, .int .i64 0, .bool true, .int .i64 1, .bool true] 41) = w38 := ⟨_, rfl⟩
  try rw [hw38]
  have hB : Below w37.heap.size w37 w38 := by rw [← hw38]; exact (Below.refl _ w37).alloc (by first | exact Nat.le_refl _ | (simp; done) | (simp; omega)) _
  have kU : w38.heap[w37.heap.size]? = some (.cells #[.int .i64 2, .bool false, .int .i64 0, .bool true, .int .i64 1, .bool true] 41 (0, 0)) := by rw [← hw38]; exact al_new _ _ _ (by first | rfl | (simp; done) | (simp; omega))
  have U0 : w38.cell? ⟨w37.heap.size, 0, none⟩ = some (.int .i64 2) := blk_cell kU 0
  have U1 : w38.cell? ⟨w37.heap.size, 1, none⟩ = some (.bool false) := blk_cell kU 1
  have U2 : w38.cell? ⟨w37.heap.size, 2, none⟩ = some (.int .i64 0) := blk_cell kU 2
  have U3 : w38.cell? ⟨w37.heap.size, 3, none⟩ = some (.bool true) := blk_cell kU 3
  have U4 : w38.cell? ⟨w37.heap.size, 4, none⟩ = some (.int .i64 1) := blk_cell kU 4
  have U5 : w38.cell? ⟨w37.heap.size, 5, none⟩ = some (.bool true) := blk_cell kU 5
  replace kl := blk_on hB kl
  replace hv := hv.trans (hB.mono hv.size)
  clear hB hw38
  refine (aw_refute _ _ _ _ [(2, false), (0, true), (1, true)] _ (bounds_C (xs := lB) kl (by decide)) (uses_C (xs := [(2, false), (0, true), (1, true)]) kU (by decide)) rfl lB_ref).mono ?_
  rintro en w39 ⟨rfl, hB⟩
  replace hv := hv.trans (hB.mono hv.size)
  go_wp2_with fail
  go_ret
  exact ⟨rfl, hv⟩
end Go.Proofs.Ytjgnadighdbjlaa.C
