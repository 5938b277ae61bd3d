/- CounterShows: the law's walk. -/
import Derived.OwnWalk
import Derived.Deep.CutRange
import Derived.LoopN
import Derived.Test.YtjgnadighdbjlaaCo
import Derived.Deep.RegionHeld3
import Derived.Test.YtjgnadighdbjlaaDh
namespace Go.Proofs.Ytjgnadighdbjlaa.C
open Go.RowKit Go.Shelf Go.Maps Go.Proofs.YtjgnadighdbjlaaW.PrintWords Go.Proofs.YtjgnadighdbjlaaW.PrintLast Go.Proofs.YtjgnadighdbjlaaW.PrintMore
set_option linter.unusedVariables false
set_option linter.unusedSimpArgs false
attribute [local go_sem high] eqA43
theorem resolveR_is (F O J G R D I m lo hi : Int) : ∃ a b e : Int, resolveR F O J G R D I m lo hi = .tuple #[.agg #[.int .i64 a, .int .i64 b], .int .i64 e] := by
  unfold resolveR
  split
  · split
    · split
      · exact resV_is _
      · exact ⟨_, _, _, rfl⟩
    · exact ⟨_, _, _, rfl⟩
  · exact ⟨_, _, _, rfl⟩
set_option maxHeartbeats 8000000 in
set_option maxRecDepth 100000 in
theorem shows_calls (F O J G R D I seed s d m lo hi : Int) (w : World) :
    Calls Try.prog 7 #[.agg #[.int .i64 F, .int .i64 O, .int .i64 J, .int .i64 G, .int .i64 R, .int .i64 D, .int .i64 I], .int .u64 seed, .int .i64 s, .int .i64 d, .int .i64 m, .agg #[.int .i64 lo, .int .i64 hi]] w fun e w' => e = .returned (.bool true) ∧ Below w.heap.size w w' := by
  have c1 := fun w => Wrap_calls F O J G R D I d w
  have c2 := fun w => rWrap_calls F O J G R D I d w
  have c3 := fun w => Check_calls F O J G R D I w
  have c4 := fun w => rCheck_calls F O J G R D I w
  have c5 := fun w => Show_calls F O J G R D I seed s d w
  have c6 := fun w => rShow_calls F O J G R D I seed s d w
  have c7 := fun w => Resolve_calls F O J G R D I m lo hi w
  have c8 := fun w => rResolve_calls F O J G R D I m lo hi w
  generalize showR F O J G R D I seed s d = sh at *
  obtain ⟨a, e⟩ := sh
  simp only at c5 c6
  have c9 := fun w => Resolve_calls F O J G R D I a lo hi w
  have cA := fun w => rResolve_calls F O J G R D I a lo hi w
  simp only [← resolve_eq] at c8 cA
  obtain ⟨a1, b1, e1, h1⟩ : ∃ a' b' e' : Int, resolveR F O J G R D I m lo hi = .tuple #[.agg #[.int .i64 a', .int .i64 b'], .int .i64 e'] := resolveR_is F O J G R D I m lo hi
  obtain ⟨a2, b2, e2, h2⟩ : ∃ a' b' e' : Int, resolveR F O J G R D I a lo hi = .tuple #[.agg #[.int .i64 a', .int .i64 b'], .int .i64 e'] := resolveR_is F O J G R D I a lo hi
  simp only [h1] at c7 c8
  simp only [h2] at c9 cA
  clear h1 h2
  generalize wrapR F O J G R D I d = wr at *
  obtain ⟨u, v⟩ := wr
  simp only at c1 c2
  generalize (if okC F O J G R D I = true then (0 : Int) else 30) = q at *
  have hv := Below.refl w.heap.size w
  have caw := fun w => awake_calls w
  go_enter Try.func7, Try.ntmps7
  go_wp2_with fail
  obtain ⟨w1, hw1⟩ : ∃ w1, ((w.alloc (.cells #[.int .i64 F, .int .i64 O, .int .i64 J, .int .i64 G, .int .i64 R, .int .i64 D, .int .i64 I] 49)).alloc (.cells #[.int .i64 lo, .int .i64 hi] 43)).alloc (.cells #[.int .i64 F, .int .i64 O, .int .i64 J, .int .i64 G, .int .i64 R, .int .i64 D, .int .i64 I] 51) = w1 := ⟨_, rfl⟩
  try rw [hw1]
  have hB : Below w.heap.size w w1 := by rw [← hw1]; exact (((Below.refl _ w).alloc (by first | exact Nat.le_refl _ | (simp; done) | (simp; omega)) _).alloc (by first | exact Nat.le_refl _ | (simp; done) | (simp; omega)) _).alloc (by first | exact Nat.le_refl _ | (simp; done) | (simp; omega)) _
  have kx : w1.heap[w.heap.size]? = some (.cells #[.int .i64 F, .int .i64 O, .int .i64 J, .int .i64 G, .int .i64 R, .int .i64 D, .int .i64 I] 49 (0, 0)) := by rw [← hw1]; exact al_old (al_old (al_new _ _ _ (by first | rfl | (simp; done) | (simp; omega))))
  have x0 : w1.cell? ⟨w.heap.size, 0, none⟩ = some (.int .i64 F) := blk_cell kx 0
  have x1 : w1.cell? ⟨w.heap.size, 1, none⟩ = some (.int .i64 O) := blk_cell kx 1
  have x2 : w1.cell? ⟨w.heap.size, 2, none⟩ = some (.int .i64 J) := blk_cell kx 2
  have x3 : w1.cell? ⟨w.heap.size, 3, none⟩ = some (.int .i64 G) := blk_cell kx 3
  have x4 : w1.cell? ⟨w.heap.size, 4, none⟩ = some (.int .i64 R) := blk_cell kx 4
  have x5 : w1.cell? ⟨w.heap.size, 5, none⟩ = some (.int .i64 D) := blk_cell kx 5
  have x6 : w1.cell? ⟨w.heap.size, 6, none⟩ = some (.int .i64 I) := blk_cell kx 6
  have kp : w1.heap[w.heap.size + 1]? = some (.cells #[.int .i64 lo, .int .i64 hi] 43 (0, 0)) := by rw [← hw1]; exact al_old (al_new _ _ _ (by first | rfl | (simp; done) | (simp; omega)))
  have p0 : w1.cell? ⟨w.heap.size + 1, 0, none⟩ = some (.int .i64 lo) := blk_cell kp 0
  have p1 : w1.cell? ⟨w.heap.size + 1, 1, none⟩ = some (.int .i64 hi) := blk_cell kp 1
  have ky : w1.heap[w.heap.size + 1 + 1]? = some (.cells #[.int .i64 F, .int .i64 O, .int .i64 J, .int .i64 G, .int .i64 R, .int .i64 D, .int .i64 I] 51 (0, 0)) := by rw [← hw1]; exact al_new _ _ _ (by first | rfl | (simp; done) | (simp; omega))
  have y0 : w1.cell? ⟨w.heap.size + 1 + 1, 0, none⟩ = some (.int .i64 F) := blk_cell ky 0
  have y1 : w1.cell? ⟨w.heap.size + 1 + 1, 1, none⟩ = some (.int .i64 O) := blk_cell ky 1
  have y2 : w1.cell? ⟨w.heap.size + 1 + 1, 2, none⟩ = some (.int .i64 J) := blk_cell ky 2
  have y3 : w1.cell? ⟨w.heap.size + 1 + 1, 3, none⟩ = some (.int .i64 G) := blk_cell ky 3
  have y4 : w1.cell? ⟨w.heap.size + 1 + 1, 4, none⟩ = some (.int .i64 R) := blk_cell ky 4
  have y5 : w1.cell? ⟨w.heap.size + 1 + 1, 5, none⟩ = some (.int .i64 D) := blk_cell ky 5
  have y6 : w1.cell? ⟨w.heap.size + 1 + 1, 6, none⟩ = some (.int .i64 I) := blk_cell ky 6
  replace hv := hv.trans (hB.mono hv.size)
  clear hB hw1
  refine (c1 _).mono ?_
  rintro en w2 ⟨rfl, hB⟩
  replace x0 := cell_on hB x0
  replace x1 := cell_on hB x1
  replace x2 := cell_on hB x2
  replace x3 := cell_on hB x3
  replace x4 := cell_on hB x4
  replace x5 := cell_on hB x5
  replace x6 := cell_on hB x6
  replace p0 := cell_on hB p0
  replace p1 := cell_on hB p1
  replace y0 := cell_on hB y0
  replace y1 := cell_on hB y1
  replace y2 := cell_on hB y2
  replace y3 := cell_on hB y3
  replace y4 := cell_on hB y4
  replace y5 := cell_on hB y5
  replace y6 := cell_on hB y6
  replace hv := hv.trans (hB.mono hv.size)
  clear hB c1
  go_wp2_with fail
  refine (c2 _).mono ?_
  rintro en w3 ⟨rfl, hB⟩
  replace x0 := cell_on hB x0
  replace x1 := cell_on hB x1
  replace x2 := cell_on hB x2
  replace x3 := cell_on hB x3
  replace x4 := cell_on hB x4
  replace x5 := cell_on hB x5
  replace x6 := cell_on hB x6
  replace p0 := cell_on hB p0
  replace p1 := cell_on hB p1
  replace y0 := cell_on hB y0
  replace y1 := cell_on hB y1
  replace y2 := cell_on hB y2
  replace y3 := cell_on hB y3
  replace y4 := cell_on hB y4
  replace y5 := cell_on hB y5
  replace y6 := cell_on hB y6
  replace hv := hv.trans (hB.mono hv.size)
  clear hB c2
  go_wp2_with fail
  have hS : ∀ w', Below w3.heap.size w3 w' → ((w'.cell? ⟨w.heap.size, 0, none⟩ = some (.int .i64 F) ∧ w'.cell? ⟨w.heap.size, 1, none⟩ = some (.int .i64 O) ∧ w'.cell? ⟨w.heap.size, 2, none⟩ = some (.int .i64 J) ∧ w'.cell? ⟨w.heap.size, 3, none⟩ = some (.int .i64 G) ∧ w'.cell? ⟨w.heap.size, 4, none⟩ = some (.int .i64 R) ∧ w'.cell? ⟨w.heap.size, 5, none⟩ = some (.int .i64 D) ∧ w'.cell? ⟨w.heap.size, 6, none⟩ = some (.int .i64 I) ∧ w'.cell? ⟨w.heap.size + 1 + 1, 0, none⟩ = some (.int .i64 F) ∧ w'.cell? ⟨w.heap.size + 1 + 1, 1, none⟩ = some (.int .i64 O) ∧ w'.cell? ⟨w.heap.size + 1 + 1, 2, none⟩ = some (.int .i64 J) ∧ w'.cell? ⟨w.heap.size + 1 + 1, 3, none⟩ = some (.int .i64 G) ∧ w'.cell? ⟨w.heap.size + 1 + 1, 4, none⟩ = some (.int .i64 R) ∧ w'.cell? ⟨w.heap.size + 1 + 1, 5, none⟩ = some (.int .i64 D) ∧ w'.cell? ⟨w.heap.size + 1 + 1, 6, none⟩ = some (.int .i64 I)) ∧ Below w3.heap.size w3 w') := fun w' hB => ⟨⟨cell_on hB x0, cell_on hB x1, cell_on hB x2, cell_on hB x3, cell_on hB x4, cell_on hB x5, cell_on hB x6, cell_on hB y0, cell_on hB y1, cell_on hB y2, cell_on hB y3, cell_on hB y4, cell_on hB y5, cell_on hB y6⟩, hB⟩
  go_region_held3 (fun w' => (w'.cell? ⟨w.heap.size, 0, none⟩ = some (.int .i64 F) ∧ w'.cell? ⟨w.heap.size, 1, none⟩ = some (.int .i64 O) ∧ w'.cell? ⟨w.heap.size, 2, none⟩ = some (.int .i64 J) ∧ w'.cell? ⟨w.heap.size, 3, none⟩ = some (.int .i64 G) ∧ w'.cell? ⟨w.heap.size, 4, none⟩ = some (.int .i64 R) ∧ w'.cell? ⟨w.heap.size, 5, none⟩ = some (.int .i64 D) ∧ w'.cell? ⟨w.heap.size, 6, none⟩ = some (.int .i64 I) ∧ w'.cell? ⟨w.heap.size + 1 + 1, 0, none⟩ = some (.int .i64 F) ∧ w'.cell? ⟨w.heap.size + 1 + 1, 1, none⟩ = some (.int .i64 O) ∧ w'.cell? ⟨w.heap.size + 1 + 1, 2, none⟩ = some (.int .i64 J) ∧ w'.cell? ⟨w.heap.size + 1 + 1, 3, none⟩ = some (.int .i64 G) ∧ w'.cell? ⟨w.heap.size + 1 + 1, 4, none⟩ = some (.int .i64 R) ∧ w'.cell? ⟨w.heap.size + 1 + 1, 5, none⟩ = some (.int .i64 D) ∧ w'.cell? ⟨w.heap.size + 1 + 1, 6, none⟩ = some (.int .i64 I)) ∧ Below w3.heap.size w3 w') (first | exact hS _ (Below.refl _ _).drew | assumption | (have hh := ‹(_ ∧ _ ∧ _ ∧ _ ∧ _ ∧ _ ∧ _ ∧ _ ∧ _ ∧ _ ∧ _ ∧ _ ∧ _ ∧ _) ∧ Below w3.heap.size w3 _›; exact hS _ (hh.2.trans (hB.mono hh.2.size))))
    (first | (go_at_call 18; refine (c3 _).mono ?_; rintro e w' ⟨rfl, hB⟩) | (go_at_call 25; refine (c4 _).mono ?_; rintro e w' ⟨rfl, hB⟩))
  rename_i hHeld
  have hB := hHeld.2
  clear hHeld hS c3 c4
  rename World => w99
  replace x0 := cell_on hB x0
  replace x1 := cell_on hB x1
  replace x2 := cell_on hB x2
  replace x3 := cell_on hB x3
  replace x4 := cell_on hB x4
  replace x5 := cell_on hB x5
  replace x6 := cell_on hB x6
  replace p0 := cell_on hB p0
  replace p1 := cell_on hB p1
  replace y0 := cell_on hB y0
  replace y1 := cell_on hB y1
  replace y2 := cell_on hB y2
  replace y3 := cell_on hB y3
  replace y4 := cell_on hB y4
  replace y5 := cell_on hB y5
  replace y6 := cell_on hB y6
  replace hv := hv.trans (hB.mono hv.size)
  clear hB
  go_wp2_with fail
  refine (c5 _).mono ?_
  rintro en w4 ⟨rfl, hB⟩
  replace x0 := cell_on hB x0
  replace x1 := cell_on hB x1
  replace x2 := cell_on hB x2
  replace x3 := cell_on hB x3
  replace x4 := cell_on hB x4
  replace x5 := cell_on hB x5
  replace x6 := cell_on hB x6
  replace p0 := cell_on hB p0
  replace p1 := cell_on hB p1
  replace y0 := cell_on hB y0
  replace y1 := cell_on hB y1
  replace y2 := cell_on hB y2
  replace y3 := cell_on hB y3
  replace y4 := cell_on hB y4
  replace y5 := cell_on hB y5
  replace y6 := cell_on hB y6
  replace hv := hv.trans (hB.mono hv.size)
  clear hB c5
  go_wp2_with fail
  refine (c6 _).mono ?_
  rintro en w5 ⟨rfl, hB⟩
  replace x0 := cell_on hB x0
  replace x1 := cell_on hB x1
  replace x2 := cell_on hB x2
  replace x3 := cell_on hB x3
  replace x4 := cell_on hB x4
  replace x5 := cell_on hB x5
  replace x6 := cell_on hB x6
  replace p0 := cell_on hB p0
  replace p1 := cell_on hB p1
  replace y0 := cell_on hB y0
  replace y1 := cell_on hB y1
  replace y2 := cell_on hB y2
  replace y3 := cell_on hB y3
  replace y4 := cell_on hB y4
  replace y5 := cell_on hB y5
  replace y6 := cell_on hB y6
  replace hv := hv.trans (hB.mono hv.size)
  clear hB c6
  go_wp2_with fail
  obtain ⟨w6, hw6⟩ : ∃ w6, w5.alloc (.cells #[.int .i64 m, .int .i64 a] 3) = w6 := ⟨_, rfl⟩
  try rw [hw6]
  have hB : Below w5.heap.size w5 w6 := by rw [← hw6]; exact (Below.refl _ w5).alloc (by first | exact Nat.le_refl _ | (simp; done) | (simp; omega)) _
  have kl : w6.heap[w5.heap.size]? = some (.cells #[.int .i64 m, .int .i64 a] 3 (0, 0)) := by rw [← hw6]; exact al_new _ _ _ (by first | rfl | (simp; done) | (simp; omega))
  have l0 : w6.cell? ⟨w5.heap.size, 0, none⟩ = some (.int .i64 m) := blk_cell kl 0
  have l1 : w6.cell? ⟨w5.heap.size, 1, none⟩ = some (.int .i64 a) := blk_cell kl 1
  clear kl
  replace x0 := cell_on hB x0
  replace x1 := cell_on hB x1
  replace x2 := cell_on hB x2
  replace x3 := cell_on hB x3
  replace x4 := cell_on hB x4
  replace x5 := cell_on hB x5
  replace x6 := cell_on hB x6
  replace p0 := cell_on hB p0
  replace p1 := cell_on hB p1
  replace y0 := cell_on hB y0
  replace y1 := cell_on hB y1
  replace y2 := cell_on hB y2
  replace y3 := cell_on hB y3
  replace y4 := cell_on hB y4
  replace y5 := cell_on hB y5
  replace y6 := cell_on hB y6
  replace hv := hv.trans (hB.mono hv.size)
  clear hB hw6
  refine wp_loop_rounds 3 ?_
  rw [rounds_succ]
  go_wp2_with fail
  refine (c7 _).mono ?_
  rintro en w7 ⟨rfl, hB⟩
  replace x0 := cell_on hB x0
  replace x1 := cell_on hB x1
  replace x2 := cell_on hB x2
  replace x3 := cell_on hB x3
  replace x4 := cell_on hB x4
  replace x5 := cell_on hB x5
  replace x6 := cell_on hB x6
  replace p0 := cell_on hB p0
  replace p1 := cell_on hB p1
  replace y0 := cell_on hB y0
  replace y1 := cell_on hB y1
  replace y2 := cell_on hB y2
  replace y3 := cell_on hB y3
  replace y4 := cell_on hB y4
  replace y5 := cell_on hB y5
  replace y6 := cell_on hB y6
  replace l0 := cell_on hB l0
  replace l1 := cell_on hB l1
  replace hv := hv.trans (hB.mono hv.size)
  clear hB c7
  have hx := World.block_lt_of_cell? _ _ x0
  have hp := World.block_lt_of_cell? _ _ p0
  go_wp2_with fail
  clear hx hp
  obtain ⟨w8, hw8⟩ : ∃ w8, w7.alloc (.cells #[.int .i64 a1, .int .i64 b1] 43) = w8 := ⟨_, rfl⟩
  try rw [hw8]
  have hB : Below w7.heap.size w7 w8 := by rw [← hw8]; exact (Below.refl _ w7).alloc (by first | exact Nat.le_refl _ | (simp; done) | (simp; omega)) _
  have ks : w8.heap[w7.heap.size]? = some (.cells #[.int .i64 a1, .int .i64 b1] 43 (0, 0)) := by rw [← hw8]; exact al_new _ _ _ (by first | rfl | (simp; done) | (simp; omega))
  have s0 : w8.cell? ⟨w7.heap.size, 0, none⟩ = some (.int .i64 a1) := blk_cell ks 0
  have s1 : w8.cell? ⟨w7.heap.size, 1, none⟩ = some (.int .i64 b1) := blk_cell ks 1
  clear ks
  replace x0 := cell_on hB x0
  replace x1 := cell_on hB x1
  replace x2 := cell_on hB x2
  replace x3 := cell_on hB x3
  replace x4 := cell_on hB x4
  replace x5 := cell_on hB x5
  replace x6 := cell_on hB x6
  replace p0 := cell_on hB p0
  replace p1 := cell_on hB p1
  replace y0 := cell_on hB y0
  replace y1 := cell_on hB y1
  replace y2 := cell_on hB y2
  replace y3 := cell_on hB y3
  replace y4 := cell_on hB y4
  replace y5 := cell_on hB y5
  replace y6 := cell_on hB y6
  replace l0 := cell_on hB l0
  replace l1 := cell_on hB l1
  replace hv := hv.trans (hB.mono hv.size)
  clear hB hw8
  refine (c8 _).mono ?_
  rintro en w9 ⟨rfl, hB⟩
  replace x0 := cell_on hB x0
  replace x1 := cell_on hB x1
  replace x2 := cell_on hB x2
  replace x3 := cell_on hB x3
  replace x4 := cell_on hB x4
  replace x5 := cell_on hB x5
  replace x6 := cell_on hB x6
  replace p0 := cell_on hB p0
  replace p1 := cell_on hB p1
  replace y0 := cell_on hB y0
  replace y1 := cell_on hB y1
  replace y2 := cell_on hB y2
  replace y3 := cell_on hB y3
  replace y4 := cell_on hB y4
  replace y5 := cell_on hB y5
  replace y6 := cell_on hB y6
  replace l0 := cell_on hB l0
  replace l1 := cell_on hB l1
  replace s0 := cell_on hB s0
  replace s1 := cell_on hB s1
  replace hv := hv.trans (hB.mono hv.size)
  clear hB c8
  have hx := World.block_lt_of_cell? _ _ s0
  have hp := World.block_lt_of_cell? _ _ p0
  go_wp2_with fail
  clear hx hp
  obtain ⟨w10, hw10⟩ : ∃ w10, w9.alloc (.cells #[.int .i64 a1, .int .i64 b1] 43) = w10 := ⟨_, rfl⟩
  try rw [hw10]
  have hB : Below w9.heap.size w9 w10 := by rw [← hw10]; exact (Below.refl _ w9).alloc (by first | exact Nat.le_refl _ | (simp; done) | (simp; omega)) _
  have kt : w10.heap[w9.heap.size]? = some (.cells #[.int .i64 a1, .int .i64 b1] 43 (0, 0)) := by rw [← hw10]; exact al_new _ _ _ (by first | rfl | (simp; done) | (simp; omega))
  have t0 : w10.cell? ⟨w9.heap.size, 0, none⟩ = some (.int .i64 a1) := blk_cell kt 0
  have t1 : w10.cell? ⟨w9.heap.size, 1, none⟩ = some (.int .i64 b1) := blk_cell kt 1
  clear kt
  replace x0 := cell_on hB x0
  replace x1 := cell_on hB x1
  replace x2 := cell_on hB x2
  replace x3 := cell_on hB x3
  replace x4 := cell_on hB x4
  replace x5 := cell_on hB x5
  replace x6 := cell_on hB x6
  replace p0 := cell_on hB p0
  replace p1 := cell_on hB p1
  replace y0 := cell_on hB y0
  replace y1 := cell_on hB y1
  replace y2 := cell_on hB y2
  replace y3 := cell_on hB y3
  replace y4 := cell_on hB y4
  replace y5 := cell_on hB y5
  replace y6 := cell_on hB y6
  replace l0 := cell_on hB l0
  replace l1 := cell_on hB l1
  replace s0 := cell_on hB s0
  replace s1 := cell_on hB s1
  replace hv := hv.trans (hB.mono hv.size)
  clear hB hw10
  go_wp2_with fail
  clear s0 s1 t0 t1
  rw [rounds_succ]
  go_wp2_with fail
  refine (c9 _).mono ?_
  rintro en w11 ⟨rfl, hB⟩
  replace x0 := cell_on hB x0
  replace x1 := cell_on hB x1
  replace x2 := cell_on hB x2
  replace x3 := cell_on hB x3
  replace x4 := cell_on hB x4
  replace x5 := cell_on hB x5
  replace x6 := cell_on hB x6
  replace p0 := cell_on hB p0
  replace p1 := cell_on hB p1
  replace y0 := cell_on hB y0
  replace y1 := cell_on hB y1
  replace y2 := cell_on hB y2
  replace y3 := cell_on hB y3
  replace y4 := cell_on hB y4
  replace y5 := cell_on hB y5
  replace y6 := cell_on hB y6
  replace l0 := cell_on hB l0
  replace l1 := cell_on hB l1
  replace hv := hv.trans (hB.mono hv.size)
  clear hB c9
  have hx := World.block_lt_of_cell? _ _ x0
  have hp := World.block_lt_of_cell? _ _ p0
  go_wp2_with fail
  clear hx hp
  obtain ⟨w12, hw12⟩ : ∃ w12, w11.alloc (.cells #[.int .i64 a2, .int .i64 b2] 43) = w12 := ⟨_, rfl⟩
  try rw [hw12]
  have hB : Below w11.heap.size w11 w12 := by rw [← hw12]; exact (Below.refl _ w11).alloc (by first | exact Nat.le_refl _ | (simp; done) | (simp; omega)) _
  have ks : w12.heap[w11.heap.size]? = some (.cells #[.int .i64 a2, .int .i64 b2] 43 (0, 0)) := by rw [← hw12]; exact al_new _ _ _ (by first | rfl | (simp; done) | (simp; omega))
  have s0 : w12.cell? ⟨w11.heap.size, 0, none⟩ = some (.int .i64 a2) := blk_cell ks 0
  have s1 : w12.cell? ⟨w11.heap.size, 1, none⟩ = some (.int .i64 b2) := blk_cell ks 1
  clear ks
  replace x0 := cell_on hB x0
  replace x1 := cell_on hB x1
  replace x2 := cell_on hB x2
  replace x3 := cell_on hB x3
  replace x4 := cell_on hB x4
  replace x5 := cell_on hB x5
  replace x6 := cell_on hB x6
  replace p0 := cell_on hB p0
  replace p1 := cell_on hB p1
  replace y0 := cell_on hB y0
  replace y1 := cell_on hB y1
  replace y2 := cell_on hB y2
  replace y3 := cell_on hB y3
  replace y4 := cell_on hB y4
  replace y5 := cell_on hB y5
  replace y6 := cell_on hB y6
  replace l0 := cell_on hB l0
  replace l1 := cell_on hB l1
  replace hv := hv.trans (hB.mono hv.size)
  clear hB hw12
  refine (cA _).mono ?_
  rintro en w13 ⟨rfl, hB⟩
  replace x0 := cell_on hB x0
  replace x1 := cell_on hB x1
  replace x2 := cell_on hB x2
  replace x3 := cell_on hB x3
  replace x4 := cell_on hB x4
  replace x5 := cell_on hB x5
  replace x6 := cell_on hB x6
  replace p0 := cell_on hB p0
  replace p1 := cell_on hB p1
  replace y0 := cell_on hB y0
  replace y1 := cell_on hB y1
  replace y2 := cell_on hB y2
  replace y3 := cell_on hB y3
  replace y4 := cell_on hB y4
  replace y5 := cell_on hB y5
  replace y6 := cell_on hB y6
  replace l0 := cell_on hB l0
  replace l1 := cell_on hB l1
  replace s0 := cell_on hB s0
  replace s1 := cell_on hB s1
  replace hv := hv.trans (hB.mono hv.size)
  clear hB cA
  have hx := World.block_lt_of_cell? _ _ s0
  have hp := World.block_lt_of_cell? _ _ p0
  go_wp2_with fail
  clear hx hp
  obtain ⟨w14, hw14⟩ : ∃ w14, w13.alloc (.cells #[.int .i64 a2, .int .i64 b2] 43) = w14 := ⟨_, rfl⟩
  try rw [hw14]
  have hB : Below w13.heap.size w13 w14 := by rw [← hw14]; exact (Below.refl _ w13).alloc (by first | exact Nat.le_refl _ | (simp; done) | (simp; omega)) _
  have kt : w14.heap[w13.heap.size]? = some (.cells #[.int .i64 a2, .int .i64 b2] 43 (0, 0)) := by rw [← hw14]; exact al_new _ _ _ (by first | rfl | (simp; done) | (simp; omega))
  have t0 : w14.cell? ⟨w13.heap.size, 0, none⟩ = some (.int .i64 a2) := blk_cell kt 0
  have t1 : w14.cell? ⟨w13.heap.size, 1, none⟩ = some (.int .i64 b2) := blk_cell kt 1
  clear kt
  replace x0 := cell_on hB x0
  replace x1 := cell_on hB x1
  replace x2 := cell_on hB x2
  replace x3 := cell_on hB x3
  replace x4 := cell_on hB x4
  replace x5 := cell_on hB x5
  replace x6 := cell_on hB x6
  replace p0 := cell_on hB p0
  replace p1 := cell_on hB p1
  replace y0 := cell_on hB y0
  replace y1 := cell_on hB y1
  replace y2 := cell_on hB y2
  replace y3 := cell_on hB y3
  replace y4 := cell_on hB y4
  replace y5 := cell_on hB y5
  replace y6 := cell_on hB y6
  replace l0 := cell_on hB l0
  replace l1 := cell_on hB l1
  replace s0 := cell_on hB s0
  replace s1 := cell_on hB s1
  replace hv := hv.trans (hB.mono hv.size)
  clear hB hw14
  go_wp2_with fail
  clear s0 s1 t0 t1
  rw [rounds_succ]
  go_wp2_with fail
  refine (caw _).mono ?_
  rintro en w15 ⟨rfl, hB⟩
  replace x0 := cell_on hB x0
  replace x1 := cell_on hB x1
  replace x2 := cell_on hB x2
  replace x3 := cell_on hB x3
  replace x4 := cell_on hB x4
  replace x5 := cell_on hB x5
  replace x6 := cell_on hB x6
  replace p0 := cell_on hB p0
  replace p1 := cell_on hB p1
  replace y0 := cell_on hB y0
  replace y1 := cell_on hB y1
  replace y2 := cell_on hB y2
  replace y3 := cell_on hB y3
  replace y4 := cell_on hB y4
  replace y5 := cell_on hB y5
  replace y6 := cell_on hB y6
  replace l0 := cell_on hB l0
  replace l1 := cell_on hB l1
  replace hv := hv.trans (hB.mono hv.size)
  clear hB caw
  go_wp2_with fail
  go_ret
  exact ⟨rfl, hv⟩
theorem counterShows_w.calls (F O J G R D I seed s d m lo hi : Int) (w : World) (h0 : 0 ≤ seed) (h1 : seed ≤ 18446744073709551615) :
    Calls Try.prog 7 #[.agg #[.int .i64 F, .int .i64 O, .int .i64 J, .int .i64 G, .int .i64 R, .int .i64 D, .int .i64 I], .int .u64 seed, .int .i64 s, .int .i64 d, .int .i64 m, .agg #[.int .i64 lo, .int .i64 hi]] w fun e w' => e = .returned (.bool true) ∧ Below w.heap.size w w' := shows_calls F O J G R D I seed s d m lo hi w
end Go.Proofs.Ytjgnadighdbjlaa.C
