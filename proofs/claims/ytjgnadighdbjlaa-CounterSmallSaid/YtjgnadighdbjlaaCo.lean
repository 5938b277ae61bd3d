/- The contract of the reference's Resolve, all ways, by hand. -/
import Derived.OwnWalk
import Derived.Deep.RegionHeld3
import Derived.Test.YtjgnadighdbjlaaCn
namespace Go.Proofs.Ytjgnadighdbjlaa.C
open Go.RowKit Go.Shelf Go.Maps Go.Proofs.YtjgnadighdbjlaaW.PrintWords Go.Proofs.YtjgnadighdbjlaaW.PrintLast Go.Proofs.YtjgnadighdbjlaaW.PrintMore
set_option linter.unusedVariables false
set_option linter.unusedSimpArgs false
set_option maxHeartbeats 1000000 in
theorem rResolve_calls (F O J G R D I m lo hi : Int) (w : World) :
    Calls Try.prog 27 #[.agg #[.int .i64 F, .int .i64 O, .int .i64 J, .int .i64 G, .int .i64 R, .int .i64 D, .int .i64 I], .int .i64 m, .agg #[.int .i64 lo, .int .i64 hi]] w fun e w' => e = .returned (rResolveR F O J G R D I m lo hi) ∧ Below w.heap.size w w' := by
  have hv := Below.refl w.heap.size w
  have c1 := fun w => rCheck_calls F O J G R D I w
  unfold rResolveR
  cases hk : okC F O J G R D I
  · rw [hk, if_neg (by simp)] at c1
    simp only [Bool.false_eq_true, if_false]
    go_enter Try.func27, Try.ntmps27
    go_wp2_with fail
    obtain ⟨w1, hw1⟩ : ∃ w1, ((w.alloc (.cells #[.int .i64 F, .int .i64 O, .int .i64 J, .int .i64 G, .int .i64 R, .int .i64 D, .int .i64 I] 49)).alloc (.cells #[.int .i64 lo, .int .i64 hi] 43)).alloc (.cells #[.int .i64 0, .int .i64 0] 43) = w1 := ⟨_, rfl⟩
    try rw [hw1]
    have hB : Below w.heap.size w w1 := by rw [← hw1]; exact (((Below.refl _ w).alloc (by first | exact Nat.le_refl _ | (simp; done) | (simp; omega)) _).alloc (by first | exact Nat.le_refl _ | (simp; done) | (simp; omega)) _).alloc (by first | exact Nat.le_refl _ | (simp; done) | (simp; omega)) _
    have kx : w1.heap[w.heap.size]? = some (.cells #[.int .i64 F, .int .i64 O, .int .i64 J, .int .i64 G, .int .i64 R, .int .i64 D, .int .i64 I] 49 (0, 0)) := by rw [← hw1]; exact al_old (al_old (al_new _ _ _ (by first | rfl | (simp; done) | (simp; omega))))
    have x0 : w1.cell? ⟨w.heap.size, 0, none⟩ = some (.int .i64 F) := blk_cell kx 0
    have x1 : w1.cell? ⟨w.heap.size, 1, none⟩ = some (.int .i64 O) := blk_cell kx 1
    have x2 : w1.cell? ⟨w.heap.size, 2, none⟩ = some (.int .i64 J) := blk_cell kx 2
    have x3 : w1.cell? ⟨w.heap.size, 3, none⟩ = some (.int .i64 G) := blk_cell kx 3
    have x4 : w1.cell? ⟨w.heap.size, 4, none⟩ = some (.int .i64 R) := blk_cell kx 4
    have x5 : w1.cell? ⟨w.heap.size, 5, none⟩ = some (.int .i64 D) := blk_cell kx 5
    have x6 : w1.cell? ⟨w.heap.size, 6, none⟩ = some (.int .i64 I) := blk_cell kx 6
    clear kx
    have kp : w1.heap[w.heap.size + 1]? = some (.cells #[.int .i64 lo, .int .i64 hi] 43 (0, 0)) := by rw [← hw1]; exact al_old (al_new _ _ _ (by first | rfl | (simp; done) | (simp; omega)))
    have p0 : w1.cell? ⟨w.heap.size + 1, 0, none⟩ = some (.int .i64 lo) := blk_cell kp 0
    have p1 : w1.cell? ⟨w.heap.size + 1, 1, none⟩ = some (.int .i64 hi) := blk_cell kp 1
    clear kp
    have kr : w1.heap[w.heap.size + 1 + 1]? = some (.cells #[.int .i64 0, .int .i64 0] 43 (0, 0)) := by rw [← hw1]; exact al_new _ _ _ (by first | rfl | (simp; done) | (simp; omega))
    have r0 : w1.cell? ⟨w.heap.size + 1 + 1, 0, none⟩ = some (.int .i64 0) := blk_cell kr 0
    have r1 : w1.cell? ⟨w.heap.size + 1 + 1, 1, none⟩ = some (.int .i64 0) := blk_cell kr 1
    clear r0 r1
    replace hv := hv.trans (hB.mono hv.size)
    clear hB hw1
    have hs1 := World.block_lt_of_cell? _ _ x0
    have hs2 := World.block_lt_of_cell? _ _ p0
    have hs3 := blk_lt kr
    refine (c1 _).mono ?_
    rintro en w2 ⟨rfl, hB⟩
    replace kr := blk_on hB kr
    replace x0 := cell_on hB x0
    replace x1 := cell_on hB x1
    replace x2 := cell_on hB x2
    replace x3 := cell_on hB x3
    replace x4 := cell_on hB x4
    replace x5 := cell_on hB x5
    replace x6 := cell_on hB x6
    replace p0 := cell_on hB p0
    replace p1 := cell_on hB p1
    replace hv := hv.trans (hB.mono hv.size)
    clear hB c1
    have krc0 : w2.cell? ⟨w.heap.size + 1 + 1, 0, none⟩ = some (.int .i64 0) := blk_cell kr 0
    have krf0 : w2.frozen? ⟨w.heap.size + 1 + 1, 0, none⟩ = false := blk_frozen kr 0
    have krc1 : w2.cell? ⟨w.heap.size + 1 + 1, 1, none⟩ = some (.int .i64 0) := blk_cell kr 1
    have krf1 : w2.frozen? ⟨w.heap.size + 1 + 1, 1, none⟩ = false := blk_frozen kr 1
    go_wp2_with fail
    refine bodyPost_ret (res_spant (p := 6) (q := 7) rfl _ _ (w.heap.size + 1 + 1) (0) (0) (.int .i64 30) (by simp) (by simp) (blk_cell (blk_put (blk_put kr 0 _ rfl) 1 _ rfl) 0) (blk_cell (blk_put (blk_put kr 0 _ rfl) 1 _ rfl) 1)) rfl ?_
    exact ⟨rfl, (hv.setCell (by simp; omega) _).setCell (by simp; omega) _⟩
  · have HK := CtrOk.of hk
    by_cases hgood : (shownF R m && inB lo 1000000000000000 && inB hi 1000000000000000) = true ∧ lo ≤ hi
    · obtain ⟨h1, h2⟩ := hgood
      rw [if_pos rfl, if_pos h1, if_pos h2]
      unfold shownF inB at h1
      simp at h1
      exact rresolve_main F O J G R D I m lo hi w HK hk (by omega) (by omega) (by omega) (by omega) h2
    have hr := HK.r
    have t0 := Int.tdiv_eq_ediv_of_nonneg (a := R) (by omega) (b := 2)
    have hw0 := wrp (-(R / 2)) (by omega) (by omega)
    clear HK
    rw [hk, if_pos rfl] at c1
    rw [if_pos rfl]
    clear hk
    by_cases a0 : m < -(R / 2)
    · rw [if_neg (by unfold shownF inB; simp; omega)]
      clear hgood
      go_enter Try.func27, Try.ntmps27
      go_wp2_with fail
      obtain ⟨w1, hw1⟩ : ∃ w1, ((w.alloc (.cells #[.int .i64 F, .int .i64 O, .int .i64 J, .int .i64 G, .int .i64 R, .int .i64 D, .int .i64 I] 49)).alloc (.cells #[.int .i64 lo, .int .i64 hi] 43)).alloc (.cells #[.int .i64 0, .int .i64 0] 43) = w1 := ⟨_, rfl⟩
      try rw [hw1]
      have hB : Below w.heap.size w w1 := by rw [← hw1]; exact (((Below.refl _ w).alloc (by first | exact Nat.le_refl _ | (simp; done) | (simp; omega)) _).alloc (by first | exact Nat.le_refl _ | (simp; done) | (simp; omega)) _).alloc (by first | exact Nat.le_refl _ | (simp; done) | (simp; omega)) _
      have kx : w1.heap[w.heap.size]? = some (.cells #[.int .i64 F, .int .i64 O, .int .i64 J, .int .i64 G, .int .i64 R, .int .i64 D, .int .i64 I] 49 (0, 0)) := by rw [← hw1]; exact al_old (al_old (al_new _ _ _ (by first | rfl | (simp; done) | (simp; omega))))
      have x0 : w1.cell? ⟨w.heap.size, 0, none⟩ = some (.int .i64 F) := blk_cell kx 0
      have x1 : w1.cell? ⟨w.heap.size, 1, none⟩ = some (.int .i64 O) := blk_cell kx 1
      have x2 : w1.cell? ⟨w.heap.size, 2, none⟩ = some (.int .i64 J) := blk_cell kx 2
      have x3 : w1.cell? ⟨w.heap.size, 3, none⟩ = some (.int .i64 G) := blk_cell kx 3
      have x4 : w1.cell? ⟨w.heap.size, 4, none⟩ = some (.int .i64 R) := blk_cell kx 4
      have x5 : w1.cell? ⟨w.heap.size, 5, none⟩ = some (.int .i64 D) := blk_cell kx 5
      have x6 : w1.cell? ⟨w.heap.size, 6, none⟩ = some (.int .i64 I) := blk_cell kx 6
      clear kx
      have kp : w1.heap[w.heap.size + 1]? = some (.cells #[.int .i64 lo, .int .i64 hi] 43 (0, 0)) := by rw [← hw1]; exact al_old (al_new _ _ _ (by first | rfl | (simp; done) | (simp; omega)))
      have p0 : w1.cell? ⟨w.heap.size + 1, 0, none⟩ = some (.int .i64 lo) := blk_cell kp 0
      have p1 : w1.cell? ⟨w.heap.size + 1, 1, none⟩ = some (.int .i64 hi) := blk_cell kp 1
      clear kp
      have kr : w1.heap[w.heap.size + 1 + 1]? = some (.cells #[.int .i64 0, .int .i64 0] 43 (0, 0)) := by rw [← hw1]; exact al_new _ _ _ (by first | rfl | (simp; done) | (simp; omega))
      have r0 : w1.cell? ⟨w.heap.size + 1 + 1, 0, none⟩ = some (.int .i64 0) := blk_cell kr 0
      have r1 : w1.cell? ⟨w.heap.size + 1 + 1, 1, none⟩ = some (.int .i64 0) := blk_cell kr 1
      clear r0 r1
      replace hv := hv.trans (hB.mono hv.size)
      clear hB hw1
      have hs1 := World.block_lt_of_cell? _ _ x0
      have hs2 := World.block_lt_of_cell? _ _ p0
      have hs3 := blk_lt kr
      refine (c1 _).mono ?_
      rintro en w2 ⟨rfl, hB⟩
      replace kr := blk_on hB kr
      replace x0 := cell_on hB x0
      replace x1 := cell_on hB x1
      replace x2 := cell_on hB x2
      replace x3 := cell_on hB x3
      replace x4 := cell_on hB x4
      replace x5 := cell_on hB x5
      replace x6 := cell_on hB x6
      replace p0 := cell_on hB p0
      replace p1 := cell_on hB p1
      replace hv := hv.trans (hB.mono hv.size)
      clear hB c1
      have krc0 : w2.cell? ⟨w.heap.size + 1 + 1, 0, none⟩ = some (.int .i64 0) := blk_cell kr 0
      have krf0 : w2.frozen? ⟨w.heap.size + 1 + 1, 0, none⟩ = false := blk_frozen kr 0
      have krc1 : w2.cell? ⟨w.heap.size + 1 + 1, 1, none⟩ = some (.int .i64 0) := blk_cell kr 1
      have krf1 : w2.frozen? ⟨w.heap.size + 1 + 1, 1, none⟩ = false := blk_frozen kr 1
      go_wp2_with fail
      refine bodyPost_ret (res_spant (p := 6) (q := 7) rfl _ _ (w.heap.size + 1 + 1) (0) (0) (.int .i64 6) (by simp) (by simp) (blk_cell (blk_put (blk_put kr 0 _ rfl) 1 _ rfl) 0) (blk_cell (blk_put (blk_put kr 0 _ rfl) 1 _ rfl) 1)) rfl ?_
      exact ⟨rfl, (hv.setCell (by simp; omega) _).setCell (by simp; omega) _⟩
    by_cases a1 : R / 2 ≤ m
    · rw [if_neg (by unfold shownF inB; simp; omega)]
      clear hgood
      go_enter Try.func27, Try.ntmps27
      go_wp2_with fail
      obtain ⟨w1, hw1⟩ : ∃ w1, ((w.alloc (.cells #[.int .i64 F, .int .i64 O, .int .i64 J, .int .i64 G, .int .i64 R, .int .i64 D, .int .i64 I] 49)).alloc (.cells #[.int .i64 lo, .int .i64 hi] 43)).alloc (.cells #[.int .i64 0, .int .i64 0] 43) = w1 := ⟨_, rfl⟩
      try rw [hw1]
      have hB : Below w.heap.size w w1 := by rw [← hw1]; exact (((Below.refl _ w).alloc (by first | exact Nat.le_refl _ | (simp; done) | (simp; omega)) _).alloc (by first | exact Nat.le_refl _ | (simp; done) | (simp; omega)) _).alloc (by first | exact Nat.le_refl _ | (simp; done) | (simp; omega)) _
      have kx : w1.heap[w.heap.size]? = some (.cells #[.int .i64 F, .int .i64 O, .int .i64 J, .int .i64 G, .int .i64 R, .int .i64 D, .int .i64 I] 49 (0, 0)) := by rw [← hw1]; exact al_old (al_old (al_new _ _ _ (by first | rfl | (simp; done) | (simp; omega))))
      have x0 : w1.cell? ⟨w.heap.size, 0, none⟩ = some (.int .i64 F) := blk_cell kx 0
      have x1 : w1.cell? ⟨w.heap.size, 1, none⟩ = some (.int .i64 O) := blk_cell kx 1
      have x2 : w1.cell? ⟨w.heap.size, 2, none⟩ = some (.int .i64 J) := blk_cell kx 2
      have x3 : w1.cell? ⟨w.heap.size, 3, none⟩ = some (.int .i64 G) := blk_cell kx 3
      have x4 : w1.cell? ⟨w.heap.size, 4, none⟩ = some (.int .i64 R) := blk_cell kx 4
      have x5 : w1.cell? ⟨w.heap.size, 5, none⟩ = some (.int .i64 D) := blk_cell kx 5
      have x6 : w1.cell? ⟨w.heap.size, 6, none⟩ = some (.int .i64 I) := blk_cell kx 6
      clear kx
      have kp : w1.heap[w.heap.size + 1]? = some (.cells #[.int .i64 lo, .int .i64 hi] 43 (0, 0)) := by rw [← hw1]; exact al_old (al_new _ _ _ (by first | rfl | (simp; done) | (simp; omega)))
      have p0 : w1.cell? ⟨w.heap.size + 1, 0, none⟩ = some (.int .i64 lo) := blk_cell kp 0
      have p1 : w1.cell? ⟨w.heap.size + 1, 1, none⟩ = some (.int .i64 hi) := blk_cell kp 1
      clear kp
      have kr : w1.heap[w.heap.size + 1 + 1]? = some (.cells #[.int .i64 0, .int .i64 0] 43 (0, 0)) := by rw [← hw1]; exact al_new _ _ _ (by first | rfl | (simp; done) | (simp; omega))
      have r0 : w1.cell? ⟨w.heap.size + 1 + 1, 0, none⟩ = some (.int .i64 0) := blk_cell kr 0
      have r1 : w1.cell? ⟨w.heap.size + 1 + 1, 1, none⟩ = some (.int .i64 0) := blk_cell kr 1
      clear r0 r1
      replace hv := hv.trans (hB.mono hv.size)
      clear hB hw1
      have hs1 := World.block_lt_of_cell? _ _ x0
      have hs2 := World.block_lt_of_cell? _ _ p0
      have hs3 := blk_lt kr
      refine (c1 _).mono ?_
      rintro en w2 ⟨rfl, hB⟩
      replace kr := blk_on hB kr
      replace x0 := cell_on hB x0
      replace x1 := cell_on hB x1
      replace x2 := cell_on hB x2
      replace x3 := cell_on hB x3
      replace x4 := cell_on hB x4
      replace x5 := cell_on hB x5
      replace x6 := cell_on hB x6
      replace p0 := cell_on hB p0
      replace p1 := cell_on hB p1
      replace hv := hv.trans (hB.mono hv.size)
      clear hB c1
      have krc0 : w2.cell? ⟨w.heap.size + 1 + 1, 0, none⟩ = some (.int .i64 0) := blk_cell kr 0
      have krf0 : w2.frozen? ⟨w.heap.size + 1 + 1, 0, none⟩ = false := blk_frozen kr 0
      have krc1 : w2.cell? ⟨w.heap.size + 1 + 1, 1, none⟩ = some (.int .i64 0) := blk_cell kr 1
      have krf1 : w2.frozen? ⟨w.heap.size + 1 + 1, 1, none⟩ = false := blk_frozen kr 1
      go_wp2_with fail
      refine bodyPost_ret (res_spant (p := 6) (q := 7) rfl _ _ (w.heap.size + 1 + 1) (0) (0) (.int .i64 6) (by simp) (by simp) (blk_cell (blk_put (blk_put kr 0 _ rfl) 1 _ rfl) 0) (blk_cell (blk_put (blk_put kr 0 _ rfl) 1 _ rfl) 1)) rfl ?_
      exact ⟨rfl, (hv.setCell (by simp; omega) _).setCell (by simp; omega) _⟩
    by_cases a2 : lo < -1000000000000000
    · rw [if_neg (by unfold shownF inB; simp; omega)]
      clear hgood
      go_enter Try.func27, Try.ntmps27
      go_wp2_with fail
      obtain ⟨w1, hw1⟩ : ∃ w1, ((w.alloc (.cells #[.int .i64 F, .int .i64 O, .int .i64 J, .int .i64 G, .int .i64 R, .int .i64 D, .int .i64 I] 49)).alloc (.cells #[.int .i64 lo, .int .i64 hi] 43)).alloc (.cells #[.int .i64 0, .int .i64 0] 43) = w1 := ⟨_, rfl⟩
      try rw [hw1]
      have hB : Below w.heap.size w w1 := by rw [← hw1]; exact (((Below.refl _ w).alloc (by first | exact Nat.le_refl _ | (simp; done) | (simp; omega)) _).alloc (by first | exact Nat.le_refl _ | (simp; done) | (simp; omega)) _).alloc (by first | exact Nat.le_refl _ | (simp; done) | (simp; omega)) _
      have kx : w1.heap[w.heap.size]? = some (.cells #[.int .i64 F, .int .i64 O, .int .i64 J, .int .i64 G, .int .i64 R, .int .i64 D, .int .i64 I] 49 (0, 0)) := by rw [← hw1]; exact al_old (al_old (al_new _ _ _ (by first | rfl | (simp; done) | (simp; omega))))
      have x0 : w1.cell? ⟨w.heap.size, 0, none⟩ = some (.int .i64 F) := blk_cell kx 0
      have x1 : w1.cell? ⟨w.heap.size, 1, none⟩ = some (.int .i64 O) := blk_cell kx 1
      have x2 : w1.cell? ⟨w.heap.size, 2, none⟩ = some (.int .i64 J) := blk_cell kx 2
      have x3 : w1.cell? ⟨w.heap.size, 3, none⟩ = some (.int .i64 G) := blk_cell kx 3
      have x4 : w1.cell? ⟨w.heap.size, 4, none⟩ = some (.int .i64 R) := blk_cell kx 4
      have x5 : w1.cell? ⟨w.heap.size, 5, none⟩ = some (.int .i64 D) := blk_cell kx 5
      have x6 : w1.cell? ⟨w.heap.size, 6, none⟩ = some (.int .i64 I) := blk_cell kx 6
      clear kx
      have kp : w1.heap[w.heap.size + 1]? = some (.cells #[.int .i64 lo, .int .i64 hi] 43 (0, 0)) := by rw [← hw1]; exact al_old (al_new _ _ _ (by first | rfl | (simp; done) | (simp; omega)))
      have p0 : w1.cell? ⟨w.heap.size + 1, 0, none⟩ = some (.int .i64 lo) := blk_cell kp 0
      have p1 : w1.cell? ⟨w.heap.size + 1, 1, none⟩ = some (.int .i64 hi) := blk_cell kp 1
      clear kp
      have kr : w1.heap[w.heap.size + 1 + 1]? = some (.cells #[.int .i64 0, .int .i64 0] 43 (0, 0)) := by rw [← hw1]; exact al_new _ _ _ (by first | rfl | (simp; done) | (simp; omega))
      have r0 : w1.cell? ⟨w.heap.size + 1 + 1, 0, none⟩ = some (.int .i64 0) := blk_cell kr 0
      have r1 : w1.cell? ⟨w.heap.size + 1 + 1, 1, none⟩ = some (.int .i64 0) := blk_cell kr 1
      clear r0 r1
      replace hv := hv.trans (hB.mono hv.size)
      clear hB hw1
      have hs1 := World.block_lt_of_cell? _ _ x0
      have hs2 := World.block_lt_of_cell? _ _ p0
      have hs3 := blk_lt kr
      refine (c1 _).mono ?_
      rintro en w2 ⟨rfl, hB⟩
      replace kr := blk_on hB kr
      replace x0 := cell_on hB x0
      replace x1 := cell_on hB x1
      replace x2 := cell_on hB x2
      replace x3 := cell_on hB x3
      replace x4 := cell_on hB x4
      replace x5 := cell_on hB x5
      replace x6 := cell_on hB x6
      replace p0 := cell_on hB p0
      replace p1 := cell_on hB p1
      replace hv := hv.trans (hB.mono hv.size)
      clear hB c1
      have krc0 : w2.cell? ⟨w.heap.size + 1 + 1, 0, none⟩ = some (.int .i64 0) := blk_cell kr 0
      have krf0 : w2.frozen? ⟨w.heap.size + 1 + 1, 0, none⟩ = false := blk_frozen kr 0
      have krc1 : w2.cell? ⟨w.heap.size + 1 + 1, 1, none⟩ = some (.int .i64 0) := blk_cell kr 1
      have krf1 : w2.frozen? ⟨w.heap.size + 1 + 1, 1, none⟩ = false := blk_frozen kr 1
      go_wp2_with fail
      refine bodyPost_ret (res_spant (p := 6) (q := 7) rfl _ _ (w.heap.size + 1 + 1) (0) (0) (.int .i64 6) (by simp) (by simp) (blk_cell (blk_put (blk_put kr 0 _ rfl) 1 _ rfl) 0) (blk_cell (blk_put (blk_put kr 0 _ rfl) 1 _ rfl) 1)) rfl ?_
      exact ⟨rfl, (hv.setCell (by simp; omega) _).setCell (by simp; omega) _⟩
    by_cases a3 : 1000000000000000 < lo
    · rw [if_neg (by unfold shownF inB; simp; omega)]
      clear hgood
      go_enter Try.func27, Try.ntmps27
      go_wp2_with fail
      obtain ⟨w1, hw1⟩ : ∃ w1, ((w.alloc (.cells #[.int .i64 F, .int .i64 O, .int .i64 J, .int .i64 G, .int .i64 R, .int .i64 D, .int .i64 I] 49)).alloc (.cells #[.int .i64 lo, .int .i64 hi] 43)).alloc (.cells #[.int .i64 0, .int .i64 0] 43) = w1 := ⟨_, rfl⟩
      try rw [hw1]
      have hB : Below w.heap.size w w1 := by rw [← hw1]; exact (((Below.refl _ w).alloc (by first | exact Nat.le_refl _ | (simp; done) | (simp; omega)) _).alloc (by first | exact Nat.le_refl _ | (simp; done) | (simp; omega)) _).alloc (by first | exact Nat.le_refl _ | (simp; done) | (simp; omega)) _
      have kx : w1.heap[w.heap.size]? = some (.cells #[.int .i64 F, .int .i64 O, .int .i64 J, .int .i64 G, .int .i64 R, .int .i64 D, .int .i64 I] 49 (0, 0)) := by rw [← hw1]; exact al_old (al_old (al_new _ _ _ (by first | rfl | (simp; done) | (simp; omega))))
      have x0 : w1.cell? ⟨w.heap.size, 0, none⟩ = some (.int .i64 F) := blk_cell kx 0
      have x1 : w1.cell? ⟨w.heap.size, 1, none⟩ = some (.int .i64 O) := blk_cell kx 1
      have x2 : w1.cell? ⟨w.heap.size, 2, none⟩ = some (.int .i64 J) := blk_cell kx 2
      have x3 : w1.cell? ⟨w.heap.size, 3, none⟩ = some (.int .i64 G) := blk_cell kx 3
      have x4 : w1.cell? ⟨w.heap.size, 4, none⟩ = some (.int .i64 R) := blk_cell kx 4
      have x5 : w1.cell? ⟨w.heap.size, 5, none⟩ = some (.int .i64 D) := blk_cell kx 5
      have x6 : w1.cell? ⟨w.heap.size, 6, none⟩ = some (.int .i64 I) := blk_cell kx 6
      clear kx
      have kp : w1.heap[w.heap.size + 1]? = some (.cells #[.int .i64 lo, .int .i64 hi] 43 (0, 0)) := by rw [← hw1]; exact al_old (al_new _ _ _ (by first | rfl | (simp; done) | (simp; omega)))
      have p0 : w1.cell? ⟨w.heap.size + 1, 0, none⟩ = some (.int .i64 lo) := blk_cell kp 0
      have p1 : w1.cell? ⟨w.heap.size + 1, 1, none⟩ = some (.int .i64 hi) := blk_cell kp 1
      clear kp
      have kr : w1.heap[w.heap.size + 1 + 1]? = some (.cells #[.int .i64 0, .int .i64 0] 43 (0, 0)) := by rw [← hw1]; exact al_new _ _ _ (by first | rfl | (simp; done) | (simp; omega))
      have r0 : w1.cell? ⟨w.heap.size + 1 + 1, 0, none⟩ = some (.int .i64 0) := blk_cell kr 0
      have r1 : w1.cell? ⟨w.heap.size + 1 + 1, 1, none⟩ = some (.int .i64 0) := blk_cell kr 1
      clear r0 r1
      replace hv := hv.trans (hB.mono hv.size)
      clear hB hw1
      have hs1 := World.block_lt_of_cell? _ _ x0
      have hs2 := World.block_lt_of_cell? _ _ p0
      have hs3 := blk_lt kr
      refine (c1 _).mono ?_
      rintro en w2 ⟨rfl, hB⟩
      replace kr := blk_on hB kr
      replace x0 := cell_on hB x0
      replace x1 := cell_on hB x1
      replace x2 := cell_on hB x2
      replace x3 := cell_on hB x3
      replace x4 := cell_on hB x4
      replace x5 := cell_on hB x5
      replace x6 := cell_on hB x6
      replace p0 := cell_on hB p0
      replace p1 := cell_on hB p1
      replace hv := hv.trans (hB.mono hv.size)
      clear hB c1
      have krc0 : w2.cell? ⟨w.heap.size + 1 + 1, 0, none⟩ = some (.int .i64 0) := blk_cell kr 0
      have krf0 : w2.frozen? ⟨w.heap.size + 1 + 1, 0, none⟩ = false := blk_frozen kr 0
      have krc1 : w2.cell? ⟨w.heap.size + 1 + 1, 1, none⟩ = some (.int .i64 0) := blk_cell kr 1
      have krf1 : w2.frozen? ⟨w.heap.size + 1 + 1, 1, none⟩ = false := blk_frozen kr 1
      go_wp2_with fail
      refine bodyPost_ret (res_spant (p := 6) (q := 7) rfl _ _ (w.heap.size + 1 + 1) (0) (0) (.int .i64 6) (by simp) (by simp) (blk_cell (blk_put (blk_put kr 0 _ rfl) 1 _ rfl) 0) (blk_cell (blk_put (blk_put kr 0 _ rfl) 1 _ rfl) 1)) rfl ?_
      exact ⟨rfl, (hv.setCell (by simp; omega) _).setCell (by simp; omega) _⟩
    by_cases a4 : hi < -1000000000000000
    · rw [if_neg (by unfold shownF inB; simp; omega)]
      clear hgood
      go_enter Try.func27, Try.ntmps27
      go_wp2_with fail
      obtain ⟨w1, hw1⟩ : ∃ w1, ((w.alloc (.cells #[.int .i64 F, .int .i64 O, .int .i64 J, .int .i64 G, .int .i64 R, .int .i64 D, .int .i64 I] 49)).alloc (.cells #[.int .i64 lo, .int .i64 hi] 43)).alloc (.cells #[.int .i64 0, .int .i64 0] 43) = w1 := ⟨_, rfl⟩
      try rw [hw1]
      have hB : Below w.heap.size w w1 := by rw [← hw1]; exact (((Below.refl _ w).alloc (by first | exact Nat.le_refl _ | (simp; done) | (simp; omega)) _).alloc (by first | exact Nat.le_refl _ | (simp; done) | (simp; omega)) _).alloc (by first | exact Nat.le_refl _ | (simp; done) | (simp; omega)) _
      have kx : w1.heap[w.heap.size]? = some (.cells #[.int .i64 F, .int .i64 O, .int .i64 J, .int .i64 G, .int .i64 R, .int .i64 D, .int .i64 I] 49 (0, 0)) := by rw [← hw1]; exact al_old (al_old (al_new _ _ _ (by first | rfl | (simp; done) | (simp; omega))))
      have x0 : w1.cell? ⟨w.heap.size, 0, none⟩ = some (.int .i64 F) := blk_cell kx 0
      have x1 : w1.cell? ⟨w.heap.size, 1, none⟩ = some (.int .i64 O) := blk_cell kx 1
      have x2 : w1.cell? ⟨w.heap.size, 2, none⟩ = some (.int .i64 J) := blk_cell kx 2
      have x3 : w1.cell? ⟨w.heap.size, 3, none⟩ = some (.int .i64 G) := blk_cell kx 3
      have x4 : w1.cell? ⟨w.heap.size, 4, none⟩ = some (.int .i64 R) := blk_cell kx 4
      have x5 : w1.cell? ⟨w.heap.size, 5, none⟩ = some (.int .i64 D) := blk_cell kx 5
      have x6 : w1.cell? ⟨w.heap.size, 6, none⟩ = some (.int .i64 I) := blk_cell kx 6
      clear kx
      have kp : w1.heap[w.heap.size + 1]? = some (.cells #[.int .i64 lo, .int .i64 hi] 43 (0, 0)) := by rw [← hw1]; exact al_old (al_new _ _ _ (by first | rfl | (simp; done) | (simp; omega)))
      have p0 : w1.cell? ⟨w.heap.size + 1, 0, none⟩ = some (.int .i64 lo) := blk_cell kp 0
      have p1 : w1.cell? ⟨w.heap.size + 1, 1, none⟩ = some (.int .i64 hi) := blk_cell kp 1
      clear kp
      have kr : w1.heap[w.heap.size + 1 + 1]? = some (.cells #[.int .i64 0, .int .i64 0] 43 (0, 0)) := by rw [← hw1]; exact al_new _ _ _ (by first | rfl | (simp; done) | (simp; omega))
      have r0 : w1.cell? ⟨w.heap.size + 1 + 1, 0, none⟩ = some (.int .i64 0) := blk_cell kr 0
      have r1 : w1.cell? ⟨w.heap.size + 1 + 1, 1, none⟩ = some (.int .i64 0) := blk_cell kr 1
      clear r0 r1
      replace hv := hv.trans (hB.mono hv.size)
      clear hB hw1
      have hs1 := World.block_lt_of_cell? _ _ x0
      have hs2 := World.block_lt_of_cell? _ _ p0
      have hs3 := blk_lt kr
      refine (c1 _).mono ?_
      rintro en w2 ⟨rfl, hB⟩
      replace kr := blk_on hB kr
      replace x0 := cell_on hB x0
      replace x1 := cell_on hB x1
      replace x2 := cell_on hB x2
      replace x3 := cell_on hB x3
      replace x4 := cell_on hB x4
      replace x5 := cell_on hB x5
      replace x6 := cell_on hB x6
      replace p0 := cell_on hB p0
      replace p1 := cell_on hB p1
      replace hv := hv.trans (hB.mono hv.size)
      clear hB c1
      have krc0 : w2.cell? ⟨w.heap.size + 1 + 1, 0, none⟩ = some (.int .i64 0) := blk_cell kr 0
      have krf0 : w2.frozen? ⟨w.heap.size + 1 + 1, 0, none⟩ = false := blk_frozen kr 0
      have krc1 : w2.cell? ⟨w.heap.size + 1 + 1, 1, none⟩ = some (.int .i64 0) := blk_cell kr 1
      have krf1 : w2.frozen? ⟨w.heap.size + 1 + 1, 1, none⟩ = false := blk_frozen kr 1
      go_wp2_with fail
      refine bodyPost_ret (res_spant (p := 6) (q := 7) rfl _ _ (w.heap.size + 1 + 1) (0) (0) (.int .i64 6) (by simp) (by simp) (blk_cell (blk_put (blk_put kr 0 _ rfl) 1 _ rfl) 0) (blk_cell (blk_put (blk_put kr 0 _ rfl) 1 _ rfl) 1)) rfl ?_
      exact ⟨rfl, (hv.setCell (by simp; omega) _).setCell (by simp; omega) _⟩
    by_cases a5 : 1000000000000000 < hi
    · rw [if_neg (by unfold shownF inB; simp; omega)]
      clear hgood
      go_enter Try.func27, Try.ntmps27
      go_wp2_with fail
      obtain ⟨w1, hw1⟩ : ∃ w1, ((w.alloc (.cells #[.int .i64 F, .int .i64 O, .int .i64 J, .int .i64 G, .int .i64 R, .int .i64 D, .int .i64 I] 49)).alloc (.cells #[.int .i64 lo, .int .i64 hi] 43)).alloc (.cells #[.int .i64 0, .int .i64 0] 43) = w1 := ⟨_, rfl⟩
      try rw [hw1]
      have hB : Below w.heap.size w w1 := by rw [← hw1]; exact (((Below.refl _ w).alloc (by first | exact Nat.le_refl _ | (simp; done) | (simp; omega)) _).alloc (by first | exact Nat.le_refl _ | (simp; done) | (simp; omega)) _).alloc (by first | exact Nat.le_refl _ | (simp; done) | (simp; omega)) _
      have kx : w1.heap[w.heap.size]? = some (.cells #[.int .i64 F, .int .i64 O, .int .i64 J, .int .i64 G, .int .i64 R, .int .i64 D, .int .i64 I] 49 (0, 0)) := by rw [← hw1]; exact al_old (al_old (al_new _ _ _ (by first | rfl | (simp; done) | (simp; omega))))
      have x0 : w1.cell? ⟨w.heap.size, 0, none⟩ = some (.int .i64 F) := blk_cell kx 0
      have x1 : w1.cell? ⟨w.heap.size, 1, none⟩ = some (.int .i64 O) := blk_cell kx 1
      have x2 : w1.cell? ⟨w.heap.size, 2, none⟩ = some (.int .i64 J) := blk_cell kx 2
      have x3 : w1.cell? ⟨w.heap.size, 3, none⟩ = some (.int .i64 G) := blk_cell kx 3
      have x4 : w1.cell? ⟨w.heap.size, 4, none⟩ = some (.int .i64 R) := blk_cell kx 4
      have x5 : w1.cell? ⟨w.heap.size, 5, none⟩ = some (.int .i64 D) := blk_cell kx 5
      have x6 : w1.cell? ⟨w.heap.size, 6, none⟩ = some (.int .i64 I) := blk_cell kx 6
      clear kx
      have kp : w1.heap[w.heap.size + 1]? = some (.cells #[.int .i64 lo, .int .i64 hi] 43 (0, 0)) := by rw [← hw1]; exact al_old (al_new _ _ _ (by first | rfl | (simp; done) | (simp; omega)))
      have p0 : w1.cell? ⟨w.heap.size + 1, 0, none⟩ = some (.int .i64 lo) := blk_cell kp 0
      have p1 : w1.cell? ⟨w.heap.size + 1, 1, none⟩ = some (.int .i64 hi) := blk_cell kp 1
      clear kp
      have kr : w1.heap[w.heap.size + 1 + 1]? = some (.cells #[.int .i64 0, .int .i64 0] 43 (0, 0)) := by rw [← hw1]; exact al_new _ _ _ (by first | rfl | (simp; done) | (simp; omega))
      have r0 : w1.cell? ⟨w.heap.size + 1 + 1, 0, none⟩ = some (.int .i64 0) := blk_cell kr 0
      have r1 : w1.cell? ⟨w.heap.size + 1 + 1, 1, none⟩ = some (.int .i64 0) := blk_cell kr 1
      clear r0 r1
      replace hv := hv.trans (hB.mono hv.size)
      clear hB hw1
      have hs1 := World.block_lt_of_cell? _ _ x0
      have hs2 := World.block_lt_of_cell? _ _ p0
      have hs3 := blk_lt kr
      refine (c1 _).mono ?_
      rintro en w2 ⟨rfl, hB⟩
      replace kr := blk_on hB kr
      replace x0 := cell_on hB x0
      replace x1 := cell_on hB x1
      replace x2 := cell_on hB x2
      replace x3 := cell_on hB x3
      replace x4 := cell_on hB x4
      replace x5 := cell_on hB x5
      replace x6 := cell_on hB x6
      replace p0 := cell_on hB p0
      replace p1 := cell_on hB p1
      replace hv := hv.trans (hB.mono hv.size)
      clear hB c1
      have krc0 : w2.cell? ⟨w.heap.size + 1 + 1, 0, none⟩ = some (.int .i64 0) := blk_cell kr 0
      have krf0 : w2.frozen? ⟨w.heap.size + 1 + 1, 0, none⟩ = false := blk_frozen kr 0
      have krc1 : w2.cell? ⟨w.heap.size + 1 + 1, 1, none⟩ = some (.int .i64 0) := blk_cell kr 1
      have krf1 : w2.frozen? ⟨w.heap.size + 1 + 1, 1, none⟩ = false := blk_frozen kr 1
      go_wp2_with fail
      refine bodyPost_ret (res_spant (p := 6) (q := 7) rfl _ _ (w.heap.size + 1 + 1) (0) (0) (.int .i64 6) (by simp) (by simp) (blk_cell (blk_put (blk_put kr 0 _ rfl) 1 _ rfl) 0) (blk_cell (blk_put (blk_put kr 0 _ rfl) 1 _ rfl) 1)) rfl ?_
      exact ⟨rfl, (hv.setCell (by simp; omega) _).setCell (by simp; omega) _⟩
    have hsh : (shownF R m && inB lo 1000000000000000 && inB hi 1000000000000000) = true := by unfold shownF inB; simp; omega
    have hle : ¬ lo ≤ hi := fun h => hgood ⟨hsh, h⟩
    rw [if_pos hsh, if_neg hle]
    have hgt : hi < lo := by omega
    clear hgood hsh
    go_enter Try.func27, Try.ntmps27
    go_wp2_with fail
    obtain ⟨w1, hw1⟩ : ∃ w1, ((w.alloc (.cells #[.int .i64 F, .int .i64 O, .int .i64 J, .int .i64 G, .int .i64 R, .int .i64 D, .int .i64 I] 49)).alloc (.cells #[.int .i64 lo, .int .i64 hi] 43)).alloc (.cells #[.int .i64 0, .int .i64 0] 43) = w1 := ⟨_, rfl⟩
    try rw [hw1]
    have hB : Below w.heap.size w w1 := by rw [← hw1]; exact (((Below.refl _ w).alloc (by first | exact Nat.le_refl _ | (simp; done) | (simp; omega)) _).alloc (by first | exact Nat.le_refl _ | (simp; done) | (simp; omega)) _).alloc (by first | exact Nat.le_refl _ | (simp; done) | (simp; omega)) _
    have kx : w1.heap[w.heap.size]? = some (.cells #[.int .i64 F, .int .i64 O, .int .i64 J, .int .i64 G, .int .i64 R, .int .i64 D, .int .i64 I] 49 (0, 0)) := by rw [← hw1]; exact al_old (al_old (al_new _ _ _ (by first | rfl | (simp; done) | (simp; omega))))
    have x0 : w1.cell? ⟨w.heap.size, 0, none⟩ = some (.int .i64 F) := blk_cell kx 0
    have x1 : w1.cell? ⟨w.heap.size, 1, none⟩ = some (.int .i64 O) := blk_cell kx 1
    have x2 : w1.cell? ⟨w.heap.size, 2, none⟩ = some (.int .i64 J) := blk_cell kx 2
    have x3 : w1.cell? ⟨w.heap.size, 3, none⟩ = some (.int .i64 G) := blk_cell kx 3
    have x4 : w1.cell? ⟨w.heap.size, 4, none⟩ = some (.int .i64 R) := blk_cell kx 4
    have x5 : w1.cell? ⟨w.heap.size, 5, none⟩ = some (.int .i64 D) := blk_cell kx 5
    have x6 : w1.cell? ⟨w.heap.size, 6, none⟩ = some (.int .i64 I) := blk_cell kx 6
    clear kx
    have kp : w1.heap[w.heap.size + 1]? = some (.cells #[.int .i64 lo, .int .i64 hi] 43 (0, 0)) := by rw [← hw1]; exact al_old (al_new _ _ _ (by first | rfl | (simp; done) | (simp; omega)))
    have p0 : w1.cell? ⟨w.heap.size + 1, 0, none⟩ = some (.int .i64 lo) := blk_cell kp 0
    have p1 : w1.cell? ⟨w.heap.size + 1, 1, none⟩ = some (.int .i64 hi) := blk_cell kp 1
    clear kp
    have kr : w1.heap[w.heap.size + 1 + 1]? = some (.cells #[.int .i64 0, .int .i64 0] 43 (0, 0)) := by rw [← hw1]; exact al_new _ _ _ (by first | rfl | (simp; done) | (simp; omega))
    have r0 : w1.cell? ⟨w.heap.size + 1 + 1, 0, none⟩ = some (.int .i64 0) := blk_cell kr 0
    have r1 : w1.cell? ⟨w.heap.size + 1 + 1, 1, none⟩ = some (.int .i64 0) := blk_cell kr 1
    clear r0 r1
    replace hv := hv.trans (hB.mono hv.size)
    clear hB hw1
    have hs1 := World.block_lt_of_cell? _ _ x0
    have hs2 := World.block_lt_of_cell? _ _ p0
    have hs3 := blk_lt kr
    refine (c1 _).mono ?_
    rintro en w2 ⟨rfl, hB⟩
    replace kr := blk_on hB kr
    replace x0 := cell_on hB x0
    replace x1 := cell_on hB x1
    replace x2 := cell_on hB x2
    replace x3 := cell_on hB x3
    replace x4 := cell_on hB x4
    replace x5 := cell_on hB x5
    replace x6 := cell_on hB x6
    replace p0 := cell_on hB p0
    replace p1 := cell_on hB p1
    replace hv := hv.trans (hB.mono hv.size)
    clear hB c1
    have krc0 : w2.cell? ⟨w.heap.size + 1 + 1, 0, none⟩ = some (.int .i64 0) := blk_cell kr 0
    have krf0 : w2.frozen? ⟨w.heap.size + 1 + 1, 0, none⟩ = false := blk_frozen kr 0
    have krc1 : w2.cell? ⟨w.heap.size + 1 + 1, 1, none⟩ = some (.int .i64 0) := blk_cell kr 1
    have krf1 : w2.frozen? ⟨w.heap.size + 1 + 1, 1, none⟩ = false := blk_frozen kr 1
    go_wp2_with fail
    refine bodyPost_ret (res_spant (p := 6) (q := 7) rfl _ _ (w.heap.size + 1 + 1) (0) (0) (.int .i64 1) (by simp) (by simp) (blk_cell (blk_put (blk_put kr 0 _ rfl) 1 _ rfl) 0) (blk_cell (blk_put (blk_put kr 0 _ rfl) 1 _ rfl) 1)) rfl ?_
    exact ⟨rfl, (hv.setCell (by simp; omega) _).setCell (by simp; omega) _⟩
end Go.Proofs.Ytjgnadighdbjlaa.C
