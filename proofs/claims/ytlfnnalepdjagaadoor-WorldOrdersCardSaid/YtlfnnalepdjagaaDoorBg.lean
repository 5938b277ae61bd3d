/- WorldOrders: the law's walk. -/
import Derived.OwnWalk
import Derived.BigRegion
import Derived.Deep.RegionHeld3
import Derived.Test.YtlfnnalepdjagaaDoorBf
import Derived.Test.YtlfnnalepdjagaaDoorBe
namespace Go.Proofs.YtlfnnalepdjagaaDoor.C
open Go.RowKit Go.Shelf Go.Maps Go.Proofs.YtlfnnalepdjagaaDoorW.PrintWords Go.Proofs.YtlfnnalepdjagaaDoorW.PrintLast Go.Proofs.YtlfnnalepdjagaaDoorW.PrintMore
set_option linter.unusedVariables false
set_option linter.unusedSimpArgs false
theorem big_false {chs : List T3} {cks : List Ck} (h : bigF chs cks = false) : chs.length ≤ 40 ∧ cks.length ≤ 40 ∧ ∀ x ∈ cks, x.es.length ≤ 40 := by
  unfold bigF at h
  simp only [Bool.or_eq_false_iff, decide_eq_false_iff_not, List.any_eq_false, decide_eq_true_eq] at h
  exact ⟨by omega, by omega, fun x hx => by have := h.2.2 x hx; omega⟩
set_option maxHeartbeats 4000000 in
set_option maxRecDepth 100000 in
theorem worldOrders_main (sd : Int) (Ah : Option Addr) (hc : Nat) (Ak : Option Addr) (kc : Nat) (chs : List T3) (cks : List Ck) (k a b : Int) (w : World) (hL : Lim w) (hW : WAt 90 w Ah Ak chs cks) (hwf : WfK cks) :
    Calls Tryd.prog 3 #[woV sd Ah chs.length hc Ak cks.length kc, .int .i64 k, .int .i64 a, .int .i64 b] w fun e w' => e = .returned (.bool true) ∧ Below w.heap.size w w' := by
  have hv := Below.refl w.heap.size w
  have aw := fun W (hB : Below w.heap.size w W) => awake_calls W (hL.below hB)
  have c10 := fun W (hB : Below w.heap.size w W) => Big_calls sd Ah hc Ak kc chs cks W (hW.below hB)
  by_cases hbig : bigF chs cks = true
  · rw [hbig] at c10
    clear hL hW hwf hbig
    go_enter Tryd.func3, Tryd.ntmps3
    go_wp2_with fail
    obtain ⟨w1, hw1⟩ : ∃ w1, w.alloc (.cells #[.int .u64 sd, .slice Ah chs.length hc, .slice Ak cks.length kc] 26) = w1 := ⟨_, rfl⟩
    try rw [hw1]
    have hB : Below w.heap.size w w1 := by rw [← hw1]; exact (Below.refl _ w).alloc (by first | exact Nat.le_refl _ | (simp; done) | (simp; omega)) _
    have kx : w1.heap[w.heap.size]? = some (.cells #[.int .u64 sd, .slice Ah chs.length hc, .slice Ak cks.length kc] 26 (0, 0)) := by rw [← hw1]; exact al_new _ _ _ (by first | rfl | (simp; done) | (simp; omega))
    have x0 : w1.cell? ⟨w.heap.size, 0, none⟩ = some (.int .u64 sd) := blk_cell kx 0
    have x1 : w1.cell? ⟨w.heap.size, 1, none⟩ = some (.slice Ah chs.length hc) := blk_cell kx 1
    have x2 : w1.cell? ⟨w.heap.size, 2, none⟩ = some (.slice Ak cks.length kc) := blk_cell kx 2
    clear kx
    replace hv := hv.trans (hB.mono hv.size)
    clear hB hw1
    refine (c10 _ hv).mono ?_
    rintro en w2 ⟨rfl, hB⟩
    replace x0 := cell_on hB x0
    replace x1 := cell_on hB x1
    replace x2 := cell_on hB x2
    replace hv := hv.trans (hB.mono hv.size)
    clear hB c10
    clear x0 x1 x2
    go_wp2_with fail
    refine (aw _ hv).mono ?_
    rintro en w3 ⟨rfl, hB⟩
    replace hv := hv.trans (hB.mono hv.size)
    clear hB aw
    go_wp2
    go_ret
    exact ⟨rfl, hv⟩
  · simp only [Bool.not_eq_true] at hbig
    rw [hbig] at c10
    obtain ⟨n1, n2, n3⟩ := big_false hbig
    have c12 := fun W (hB : Below w.heap.size w W) => Own_calls sd Ah hc Ak kc chs cks W (hW.below hB) n1 n2 n3
    have c13 : ∀ (s : Int) A1 k1 A2 k2 W, Below w.heap.size w W → WAt 51 W A1 A2 chs cks → Calls Tryd.prog 13 #[woV sd A1 chs.length k1 A2 cks.length k2, .int .i64 k, .int .i64 s] W fun e w' => e = .returned (.tuple #[.agg #[.int .i64 (readR sd chs cks k s).1.1, .int .i64 (readR sd chs cks k s).1.2], .int .i64 (readR sd chs cks k s).2]) ∧ Below W.heap.size W w' := fun s A1 k1 A2 k2 W hB hA => Read_calls sd A1 k1 A2 k2 chs cks k s W (hL.below hB) hA hwf
    have c13a := c13 a
    have c13b := c13 b
    clear c13
    by_cases hEa : errN chs cks k a = 0
    rotate_left
    · have ra : readR sd chs cks k a = ((0, 0), errN chs cks k a) := by unfold readR; rw [if_neg hEa]
      rw [ra] at c13a
      simp only at c13a
      clear ra
      generalize errN chs cks k a = E at *
      generalize readR sd chs cks k b = R at *
      obtain ⟨⟨r1, r2⟩, r3⟩ := R
      simp only at c13b
      have d1 : (E == 0) = false := beq_eq_false_iff_ne.2 hEa
      clear hbig n1 n2 n3 hL hW hwf hEa
      go_enter Tryd.func3, Tryd.ntmps3
      go_wp2_with fail
      obtain ⟨w1, hw1⟩ : ∃ w1, w.alloc (.cells #[.int .u64 sd, .slice Ah chs.length hc, .slice Ak cks.length kc] 26) = w1 := ⟨_, rfl⟩
      try rw [hw1]
      have hB : Below w.heap.size w w1 := by rw [← hw1]; exact (Below.refl _ w).alloc (by first | exact Nat.le_refl _ | (simp; done) | (simp; omega)) _
      have kx : w1.heap[w.heap.size]? = some (.cells #[.int .u64 sd, .slice Ah chs.length hc, .slice Ak cks.length kc] 26 (0, 0)) := by rw [← hw1]; exact al_new _ _ _ (by first | rfl | (simp; done) | (simp; omega))
      have x0 : w1.cell? ⟨w.heap.size, 0, none⟩ = some (.int .u64 sd) := blk_cell kx 0
      have x1 : w1.cell? ⟨w.heap.size, 1, none⟩ = some (.slice Ah chs.length hc) := blk_cell kx 1
      have x2 : w1.cell? ⟨w.heap.size, 2, none⟩ = some (.slice Ak cks.length kc) := blk_cell kx 2
      clear kx
      replace hv := hv.trans (hB.mono hv.size)
      clear hB hw1
      refine (c10 _ hv).mono ?_
      rintro en w2 ⟨rfl, hB⟩
      replace x0 := cell_on hB x0
      replace x1 := cell_on hB x1
      replace x2 := cell_on hB x2
      replace hv := hv.trans (hB.mono hv.size)
      clear hB c10
      go_wp2_with fail
      refine (c12 _ hv).mono ?_
      rintro en w3 ⟨A1, k1, A2, k2, rfl, hA, hB⟩
      replace x0 := cell_on hB x0
      replace x1 := cell_on hB x1
      replace x2 := cell_on hB x2
      replace hv := hv.trans (hB.mono hv.size)
      clear hB c12 x0 x1 x2
      go_wp2_with fail
      obtain ⟨w4, hw4⟩ : ∃ w4, w3.alloc (.cells #[.int .u64 sd, .slice A1 chs.length k1, .slice A2 cks.length k2] 32) = w4 := ⟨_, rfl⟩
      try rw [hw4]
      have hB : Below w3.heap.size w3 w4 := by rw [← hw4]; exact (Below.refl _ w3).alloc (by first | exact Nat.le_refl _ | (simp; done) | (simp; omega)) _
      have ky : w4.heap[w3.heap.size]? = some (.cells #[.int .u64 sd, .slice A1 chs.length k1, .slice A2 cks.length k2] 32 (0, 0)) := by rw [← hw4]; exact al_new _ _ _ (by first | rfl | (simp; done) | (simp; omega))
      have y0 : w4.cell? ⟨w3.heap.size, 0, none⟩ = some (.int .u64 sd) := blk_cell ky 0
      have y1 : w4.cell? ⟨w3.heap.size, 1, none⟩ = some (.slice A1 chs.length k1) := blk_cell ky 1
      have y2 : w4.cell? ⟨w3.heap.size, 2, none⟩ = some (.slice A2 cks.length k2) := blk_cell ky 2
      clear ky
      replace hA := hA.below hB
      replace hv := hv.trans (hB.mono hv.size)
      clear hB hw4
      refine (c13a _ _ _ _ _ hv hA).mono ?_
      rintro en w5 ⟨rfl, hB⟩
      replace hA := hA.below hB
      replace y0 := cell_on hB y0
      replace y1 := cell_on hB y1
      replace y2 := cell_on hB y2
      replace hv := hv.trans (hB.mono hv.size)
      clear hB c13a
      go_upto_region 5 with fail
      obtain ⟨w6, hw6⟩ : ∃ w6, w5.alloc (.cells #[.int .i64 0, .int .i64 0] 35) = w6 := ⟨_, rfl⟩
      try rw [hw6]
      have hB : Below w5.heap.size w5 w6 := by rw [← hw6]; exact (Below.refl _ w5).alloc (by first | exact Nat.le_refl _ | (simp; done) | (simp; omega)) _
      have kmm : w6.heap[w5.heap.size]? = some (.cells #[.int .i64 0, .int .i64 0] 35 (0, 0)) := by rw [← hw6]; exact al_new _ _ _ (by first | rfl | (simp; done) | (simp; omega))
      have mm0 : w6.cell? ⟨w5.heap.size, 0, none⟩ = some (.int .i64 0) := blk_cell kmm 0
      have mm1 : w6.cell? ⟨w5.heap.size, 1, none⟩ = some (.int .i64 0) := blk_cell kmm 1
      clear kmm
      replace hA := hA.below hB
      replace y0 := cell_on hB y0
      replace y1 := cell_on hB y1
      replace y2 := cell_on hB y2
      replace hv := hv.trans (hB.mono hv.size)
      clear hB hw6
      go_wp2_with fail
      refine (c13b _ _ _ _ _ hv hA).mono ?_
      rintro en w7 ⟨rfl, hB⟩
      replace hA := hA.below hB
      replace y0 := cell_on hB y0
      replace y1 := cell_on hB y1
      replace y2 := cell_on hB y2
      replace mm0 := cell_on hB mm0
      replace mm1 := cell_on hB mm1
      replace hv := hv.trans (hB.mono hv.size)
      clear hB c13b
      go_upto_region 6 with fail
      obtain ⟨w8, hw8⟩ : ∃ w8, w7.alloc (.cells #[.int .i64 r1, .int .i64 r2] 35) = w8 := ⟨_, rfl⟩
      try rw [hw8]
      have hB : Below w7.heap.size w7 w8 := by rw [← hw8]; exact (Below.refl _ w7).alloc (by first | exact Nat.le_refl _ | (simp; done) | (simp; omega)) _
      have knn : w8.heap[w7.heap.size]? = some (.cells #[.int .i64 r1, .int .i64 r2] 35 (0, 0)) := by rw [← hw8]; exact al_new _ _ _ (by first | rfl | (simp; done) | (simp; omega))
      have nn0 : w8.cell? ⟨w7.heap.size, 0, none⟩ = some (.int .i64 r1) := blk_cell knn 0
      have nn1 : w8.cell? ⟨w7.heap.size, 1, none⟩ = some (.int .i64 r2) := blk_cell knn 1
      clear knn
      replace hA := hA.below hB
      replace y0 := cell_on hB y0
      replace y1 := cell_on hB y1
      replace y2 := cell_on hB y2
      replace mm0 := cell_on hB mm0
      replace mm1 := cell_on hB mm1
      replace hv := hv.trans (hB.mono hv.size)
      clear hB hw8
      clear hA y0 y1 y2 mm0 mm1 nn0 nn1
      go_wp2_with fail
      refine (aw _ hv).mono ?_
      rintro en w9 ⟨rfl, hB⟩
      replace hv := hv.trans (hB.mono hv.size)
      clear hB aw
      go_wp2
      go_ret
      exact ⟨rfl, hv⟩
    have HA := reads_of (seed := sd) hEa
    have ra : readR sd chs cks k a = (momF a (shownF sd chs cks k a), 0) := by unfold readR; rw [if_pos hEa]
    rw [ra] at c13a
    simp only at c13a
    clear ra
    by_cases hEb : errN chs cks k b = 0
    rotate_left
    · have rb : readR sd chs cks k b = ((0, 0), errN chs cks k b) := by unfold readR; rw [if_neg hEb]
      rw [rb] at c13b
      simp only at c13b
      clear rb
      generalize errN chs cks k b = E at *
      generalize momF a (shownF sd chs cks k a) = R at *
      obtain ⟨r1, r2⟩ := R
      simp only at c13a
      have d1 : (E == 0) = false := beq_eq_false_iff_ne.2 hEb
      clear hbig n1 n2 n3 hL hW hwf hEa hEb HA
      go_enter Tryd.func3, Tryd.ntmps3
      go_wp2_with fail
      obtain ⟨w1, hw1⟩ : ∃ w1, w.alloc (.cells #[.int .u64 sd, .slice Ah chs.length hc, .slice Ak cks.length kc] 26) = w1 := ⟨_, rfl⟩
      try rw [hw1]
      have hB : Below w.heap.size w w1 := by rw [← hw1]; exact (Below.refl _ w).alloc (by first | exact Nat.le_refl _ | (simp; done) | (simp; omega)) _
      have kx : w1.heap[w.heap.size]? = some (.cells #[.int .u64 sd, .slice Ah chs.length hc, .slice Ak cks.length kc] 26 (0, 0)) := by rw [← hw1]; exact al_new _ _ _ (by first | rfl | (simp; done) | (simp; omega))
      have x0 : w1.cell? ⟨w.heap.size, 0, none⟩ = some (.int .u64 sd) := blk_cell kx 0
      have x1 : w1.cell? ⟨w.heap.size, 1, none⟩ = some (.slice Ah chs.length hc) := blk_cell kx 1
      have x2 : w1.cell? ⟨w.heap.size, 2, none⟩ = some (.slice Ak cks.length kc) := blk_cell kx 2
      clear kx
      replace hv := hv.trans (hB.mono hv.size)
      clear hB hw1
      refine (c10 _ hv).mono ?_
      rintro en w2 ⟨rfl, hB⟩
      replace x0 := cell_on hB x0
      replace x1 := cell_on hB x1
      replace x2 := cell_on hB x2
      replace hv := hv.trans (hB.mono hv.size)
      clear hB c10
      go_wp2_with fail
      refine (c12 _ hv).mono ?_
      rintro en w3 ⟨A1, k1, A2, k2, rfl, hA, hB⟩
      replace x0 := cell_on hB x0
      replace x1 := cell_on hB x1
      replace x2 := cell_on hB x2
      replace hv := hv.trans (hB.mono hv.size)
      clear hB c12 x0 x1 x2
      go_wp2_with fail
      obtain ⟨w4, hw4⟩ : ∃ w4, w3.alloc (.cells #[.int .u64 sd, .slice A1 chs.length k1, .slice A2 cks.length k2] 32) = w4 := ⟨_, rfl⟩
      try rw [hw4]
      have hB : Below w3.heap.size w3 w4 := by rw [← hw4]; exact (Below.refl _ w3).alloc (by first | exact Nat.le_refl _ | (simp; done) | (simp; omega)) _
      have ky : w4.heap[w3.heap.size]? = some (.cells #[.int .u64 sd, .slice A1 chs.length k1, .slice A2 cks.length k2] 32 (0, 0)) := by rw [← hw4]; exact al_new _ _ _ (by first | rfl | (simp; done) | (simp; omega))
      have y0 : w4.cell? ⟨w3.heap.size, 0, none⟩ = some (.int .u64 sd) := blk_cell ky 0
      have y1 : w4.cell? ⟨w3.heap.size, 1, none⟩ = some (.slice A1 chs.length k1) := blk_cell ky 1
      have y2 : w4.cell? ⟨w3.heap.size, 2, none⟩ = some (.slice A2 cks.length k2) := blk_cell ky 2
      clear ky
      replace hA := hA.below hB
      replace hv := hv.trans (hB.mono hv.size)
      clear hB hw4
      refine (c13a _ _ _ _ _ hv hA).mono ?_
      rintro en w5 ⟨rfl, hB⟩
      replace hA := hA.below hB
      replace y0 := cell_on hB y0
      replace y1 := cell_on hB y1
      replace y2 := cell_on hB y2
      replace hv := hv.trans (hB.mono hv.size)
      clear hB c13a
      go_upto_region 5 with fail
      obtain ⟨w6, hw6⟩ : ∃ w6, w5.alloc (.cells #[.int .i64 r1, .int .i64 r2] 35) = w6 := ⟨_, rfl⟩
      try rw [hw6]
      have hB : Below w5.heap.size w5 w6 := by rw [← hw6]; exact (Below.refl _ w5).alloc (by first | exact Nat.le_refl _ | (simp; done) | (simp; omega)) _
      have kmm : w6.heap[w5.heap.size]? = some (.cells #[.int .i64 r1, .int .i64 r2] 35 (0, 0)) := by rw [← hw6]; exact al_new _ _ _ (by first | rfl | (simp; done) | (simp; omega))
      have mm0 : w6.cell? ⟨w5.heap.size, 0, none⟩ = some (.int .i64 r1) := blk_cell kmm 0
      have mm1 : w6.cell? ⟨w5.heap.size, 1, none⟩ = some (.int .i64 r2) := blk_cell kmm 1
      clear kmm
      replace hA := hA.below hB
      replace y0 := cell_on hB y0
      replace y1 := cell_on hB y1
      replace y2 := cell_on hB y2
      replace hv := hv.trans (hB.mono hv.size)
      clear hB hw6
      go_wp2_with fail
      refine (c13b _ _ _ _ _ hv hA).mono ?_
      rintro en w7 ⟨rfl, hB⟩
      replace hA := hA.below hB
      replace y0 := cell_on hB y0
      replace y1 := cell_on hB y1
      replace y2 := cell_on hB y2
      replace mm0 := cell_on hB mm0
      replace mm1 := cell_on hB mm1
      replace hv := hv.trans (hB.mono hv.size)
      clear hB c13b
      go_upto_region 6 with fail
      obtain ⟨w8, hw8⟩ : ∃ w8, w7.alloc (.cells #[.int .i64 0, .int .i64 0] 35) = w8 := ⟨_, rfl⟩
      try rw [hw8]
      have hB : Below w7.heap.size w7 w8 := by rw [← hw8]; exact (Below.refl _ w7).alloc (by first | exact Nat.le_refl _ | (simp; done) | (simp; omega)) _
      have knn : w8.heap[w7.heap.size]? = some (.cells #[.int .i64 0, .int .i64 0] 35 (0, 0)) := by rw [← hw8]; exact al_new _ _ _ (by first | rfl | (simp; done) | (simp; omega))
      have nn0 : w8.cell? ⟨w7.heap.size, 0, none⟩ = some (.int .i64 0) := blk_cell knn 0
      have nn1 : w8.cell? ⟨w7.heap.size, 1, none⟩ = some (.int .i64 0) := blk_cell knn 1
      clear knn
      replace hA := hA.below hB
      replace y0 := cell_on hB y0
      replace y1 := cell_on hB y1
      replace y2 := cell_on hB y2
      replace mm0 := cell_on hB mm0
      replace mm1 := cell_on hB mm1
      replace hv := hv.trans (hB.mono hv.size)
      clear hB hw8
      clear hA y0 y1 y2 mm0 mm1 nn0 nn1
      go_wp2_with fail
      refine (aw _ hv).mono ?_
      rintro en w9 ⟨rfl, hB⟩
      replace hv := hv.trans (hB.mono hv.size)
      clear hB aw
      go_wp2
      go_ret
      exact ⟨rfl, hv⟩
    have HB := reads_of (seed := sd) hEb
    have rb : readR sd chs cks k b = (momF b (shownF sd chs cks k b), 0) := by unfold readR; rw [if_pos hEb]
    rw [rb] at c13b
    simp only at c13b
    clear rb
    have q1 : beforeF (momF a (shownF sd chs cks k a)) (momF b (shownF sd chs cks k b)) = decide (a < b) := by rw [before_iff, reading_lt HA HB]
    have q2 : beforeF (momF b (shownF sd chs cks k b)) (momF a (shownF sd chs cks k a)) = decide (b < a) := by rw [before_iff, reading_lt HB HA]
    have c15 : ∀ A1 k1 A2 k2 W, Below w.heap.size w W → WAt 51 W A1 A2 chs cks → Calls Tryd.prog 15 #[woV sd A1 chs.length k1 A2 cks.length k2, .int .i64 k, .agg #[.int .i64 (momF a (shownF sd chs cks k a)).1, .int .i64 (momF a (shownF sd chs cks k a)).2]] W fun e w' => e = .returned (.tuple #[.int .i64 a, .int .i64 0]) ∧ Below W.heap.size W w' := fun A1 k1 A2 k2 W hB hA => by
      have hm := mom_split a (shownF sd chs cks k a)
      refine (Back_ok sd A1 k1 A2 k2 chs cks k _ _ W (hL.below hB) hA hwf HA.kz ((inW_iff _ _ _).2 ⟨hm.2.1, by omega⟩)).mono ?_
      rintro e w' ⟨r, hr, h1, h2, rfl, hB2⟩
      rw [find_eq HA hr h1 h2]
      exact ⟨rfl, hB2⟩
    have c16 : 0 < (momF a (shownF sd chs cks k a)).2 → ∀ A1 k1 A2 k2 W, Below w.heap.size w W → WAt 51 W A1 A2 chs cks → Calls Tryd.prog 15 #[woV sd A1 chs.length k1 A2 cks.length k2, .int .i64 k, .agg #[.int .i64 (momF a (shownF sd chs cks k a)).1, .int .i64 ((momF a (shownF sd chs cks k a)).2 - 1)]] W fun e w' => ∃ n E : Int, e = .returned (.tuple #[.int .i64 n, .int .i64 E]) ∧ ((E = 0 ∧ n < a) ∨ E = 4) ∧ Below W.heap.size W w' := fun hp A1 k1 A2 k2 W hB hA => by
      have hm := mom_split a (shownF sd chs cks k a)
      refine (Back_ok sd A1 k1 A2 k2 chs cks k _ _ W (hL.below hB) hA hwf HA.kz ((inW_iff _ _ _).2 ⟨by omega, by omega⟩)).mono ?_
      rintro e w' ⟨r, hr, h1, h2, rfl, hB2⟩
      rcases find_before HA hp hr h1 h2 with ⟨n, hn, e⟩ | e
      · rw [e]; exact ⟨n, 0, rfl, .inl ⟨rfl, hn⟩, hB2⟩
      · rw [e]; exact ⟨0, 4, rfl, .inr rfl, hB2⟩
    have hm := mom_split a (shownF sd chs cks k a)
    generalize momF a (shownF sd chs cks k a) = M at *
    generalize momF b (shownF sd chs cks k b) = N at *
    obtain ⟨m1, m2⟩ := M
    obtain ⟨r1, r2⟩ := N
    unfold beforeF at q1 q2
    simp only at c13a c13b q1 q2 c15 c16 hm
    have c14a := fun W => before_calls m1 m2 r1 r2 W
    have c14b := fun W => before_calls r1 r2 m1 m2 W
    rw [q1] at c14a
    rw [q2] at c14b
    have d1 : decide (m2 < 0) = false := decide_eq_false (by omega)
    have d2 : decide (m2 ≥ 1000000000000000) = false := decide_eq_false (by omega)
    have d2' : decide (1000000000000000 ≤ m2) = false := decide_eq_false (by omega)
    have s1 : IntKind.i64.wrap (m2 - 1) = m2 - 1 := C.wr _ (by omega) (by omega)
    clear hbig n1 n2 n3 hL hW hwf hEa hEb HA HB q1 q2
    by_cases hp : 0 < m2
    · have d3 : decide (m2 > 0) = true := decide_eq_true hp
      have d3' : decide (0 < m2) = true := decide_eq_true hp
      have c17 := c16 hp
      clear c16 hp hm
      go_enter Tryd.func3, Tryd.ntmps3
      go_wp2_with fail
      obtain ⟨w1, hw1⟩ : ∃ w1, w.alloc (.cells #[.int .u64 sd, .slice Ah chs.length hc, .slice Ak cks.length kc] 26) = w1 := ⟨_, rfl⟩
      try rw [hw1]
      have hB : Below w.heap.size w w1 := by rw [← hw1]; exact (Below.refl _ w).alloc (by first | exact Nat.le_refl _ | (simp; done) | (simp; omega)) _
      have kx : w1.heap[w.heap.size]? = some (.cells #[.int .u64 sd, .slice Ah chs.length hc, .slice Ak cks.length kc] 26 (0, 0)) := by rw [← hw1]; exact al_new _ _ _ (by first | rfl | (simp; done) | (simp; omega))
      have x0 : w1.cell? ⟨w.heap.size, 0, none⟩ = some (.int .u64 sd) := blk_cell kx 0
      have x1 : w1.cell? ⟨w.heap.size, 1, none⟩ = some (.slice Ah chs.length hc) := blk_cell kx 1
      have x2 : w1.cell? ⟨w.heap.size, 2, none⟩ = some (.slice Ak cks.length kc) := blk_cell kx 2
      clear kx
      replace hv := hv.trans (hB.mono hv.size)
      clear hB hw1
      refine (c10 _ hv).mono ?_
      rintro en w2 ⟨rfl, hB⟩
      replace x0 := cell_on hB x0
      replace x1 := cell_on hB x1
      replace x2 := cell_on hB x2
      replace hv := hv.trans (hB.mono hv.size)
      clear hB c10
      go_wp2_with fail
      refine (c12 _ hv).mono ?_
      rintro en w3 ⟨A1, k1, A2, k2, rfl, hA, hB⟩
      replace x0 := cell_on hB x0
      replace x1 := cell_on hB x1
      replace x2 := cell_on hB x2
      replace hv := hv.trans (hB.mono hv.size)
      clear hB c12 x0 x1 x2
      have hA3 := hA
      have hv3 := Below.refl w3.heap.size w3
      go_wp2_with fail
      have hz8 := hv.size
      obtain ⟨w4, hw4⟩ : ∃ w4, w3.alloc (.cells #[.int .u64 sd, .slice A1 chs.length k1, .slice A2 cks.length k2] 32) = w4 := ⟨_, rfl⟩
      try rw [hw4]
      have hB : Below w3.heap.size w3 w4 := by rw [← hw4]; exact (Below.refl _ w3).alloc (by first | exact Nat.le_refl _ | (simp; done) | (simp; omega)) _
      have ky : w4.heap[w3.heap.size]? = some (.cells #[.int .u64 sd, .slice A1 chs.length k1, .slice A2 cks.length k2] 32 (0, 0)) := by rw [← hw4]; exact al_new _ _ _ (by first | rfl | (simp; done) | (simp; omega))
      have y0 : w4.cell? ⟨w3.heap.size, 0, none⟩ = some (.int .u64 sd) := blk_cell ky 0
      have y1 : w4.cell? ⟨w3.heap.size, 1, none⟩ = some (.slice A1 chs.length k1) := blk_cell ky 1
      have y2 : w4.cell? ⟨w3.heap.size, 2, none⟩ = some (.slice A2 cks.length k2) := blk_cell ky 2
      replace hv3 := hv3.trans (hB.mono hv3.size)
      replace hA := hA.below hB
      replace hv := hv.trans (hB.mono hv.size)
      clear hB hw4
      refine (c13a _ _ _ _ _ hv hA).mono ?_
      rintro en w5 ⟨rfl, hB⟩
      replace hv3 := hv3.trans (hB.mono hv3.size)
      replace hA := hA.below hB
      replace ky := blk_on hB ky
      replace y0 := cell_on hB y0
      replace y1 := cell_on hB y1
      replace y2 := cell_on hB y2
      replace hv := hv.trans (hB.mono hv.size)
      clear hB c13a
      have hz9 := blk_lt ky
      go_upto_region 5 with fail
      obtain ⟨w6, hw6⟩ : ∃ w6, w5.alloc (.cells #[.int .i64 m1, .int .i64 m2] 35) = w6 := ⟨_, rfl⟩
      try rw [hw6]
      have hB : Below w5.heap.size w5 w6 := by rw [← hw6]; exact (Below.refl _ w5).alloc (by first | exact Nat.le_refl _ | (simp; done) | (simp; omega)) _
      have kmm : w6.heap[w5.heap.size]? = some (.cells #[.int .i64 m1, .int .i64 m2] 35 (0, 0)) := by rw [← hw6]; exact al_new _ _ _ (by first | rfl | (simp; done) | (simp; omega))
      have mm0 : w6.cell? ⟨w5.heap.size, 0, none⟩ = some (.int .i64 m1) := blk_cell kmm 0
      have mm1 : w6.cell? ⟨w5.heap.size, 1, none⟩ = some (.int .i64 m2) := blk_cell kmm 1
      replace hv3 := hv3.trans (hB.mono hv3.size)
      replace hA := hA.below hB
      replace ky := blk_on hB ky
      replace y0 := cell_on hB y0
      replace y1 := cell_on hB y1
      replace y2 := cell_on hB y2
      replace hv := hv.trans (hB.mono hv.size)
      clear hB hw6
      go_wp2_with fail
      refine (c13b _ _ _ _ _ hv hA).mono ?_
      rintro en w7 ⟨rfl, hB⟩
      replace hv3 := hv3.trans (hB.mono hv3.size)
      replace hA := hA.below hB
      replace ky := blk_on hB ky
      replace kmm := blk_on hB kmm
      replace y0 := cell_on hB y0
      replace y1 := cell_on hB y1
      replace y2 := cell_on hB y2
      replace mm0 := cell_on hB mm0
      replace mm1 := cell_on hB mm1
      replace hv := hv.trans (hB.mono hv.size)
      clear hB c13b
      go_upto_region 6 with fail
      obtain ⟨w8, hw8⟩ : ∃ w8, w7.alloc (.cells #[.int .i64 r1, .int .i64 r2] 35) = w8 := ⟨_, rfl⟩
      try rw [hw8]
      have hB : Below w7.heap.size w7 w8 := by rw [← hw8]; exact (Below.refl _ w7).alloc (by first | exact Nat.le_refl _ | (simp; done) | (simp; omega)) _
      have knn : w8.heap[w7.heap.size]? = some (.cells #[.int .i64 r1, .int .i64 r2] 35 (0, 0)) := by rw [← hw8]; exact al_new _ _ _ (by first | rfl | (simp; done) | (simp; omega))
      have nn0 : w8.cell? ⟨w7.heap.size, 0, none⟩ = some (.int .i64 r1) := blk_cell knn 0
      have nn1 : w8.cell? ⟨w7.heap.size, 1, none⟩ = some (.int .i64 r2) := blk_cell knn 1
      clear knn
      replace hv3 := hv3.trans (hB.mono hv3.size)
      replace hA := hA.below hB
      replace ky := blk_on hB ky
      replace kmm := blk_on hB kmm
      replace y0 := cell_on hB y0
      replace y1 := cell_on hB y1
      replace y2 := cell_on hB y2
      replace mm0 := cell_on hB mm0
      replace mm1 := cell_on hB mm1
      replace hv := hv.trans (hB.mono hv.size)
      clear hB hw8
      go_wp2_with fail
      refine (c14a _).mono ?_
      rintro en w9 ⟨rfl, hB⟩
      replace hv3 := hv3.trans (hB.mono hv3.size)
      replace hA := hA.below hB
      replace ky := blk_on hB ky
      replace kmm := blk_on hB kmm
      replace y0 := cell_on hB y0
      replace y1 := cell_on hB y1
      replace y2 := cell_on hB y2
      replace mm0 := cell_on hB mm0
      replace mm1 := cell_on hB mm1
      replace nn0 := cell_on hB nn0
      replace nn1 := cell_on hB nn1
      replace hv := hv.trans (hB.mono hv.size)
      clear hB c14a
      go_wp2_with fail
      refine (c14b _).mono ?_
      rintro en w10 ⟨rfl, hB⟩
      replace hv3 := hv3.trans (hB.mono hv3.size)
      replace hA := hA.below hB
      replace ky := blk_on hB ky
      replace kmm := blk_on hB kmm
      replace y0 := cell_on hB y0
      replace y1 := cell_on hB y1
      replace y2 := cell_on hB y2
      replace mm0 := cell_on hB mm0
      replace mm1 := cell_on hB mm1
      replace nn0 := cell_on hB nn0
      replace nn1 := cell_on hB nn1
      replace hv := hv.trans (hB.mono hv.size)
      clear hB c14b
      go_wp2_with fail
      refine (c15 _ _ _ _ _ hv hA).mono ?_
      rintro en w11 ⟨rfl, hB⟩
      replace hv3 := hv3.trans (hB.mono hv3.size)
      replace hA := hA.below hB
      replace ky := blk_on hB ky
      replace kmm := blk_on hB kmm
      replace y0 := cell_on hB y0
      replace y1 := cell_on hB y1
      replace y2 := cell_on hB y2
      replace mm0 := cell_on hB mm0
      replace mm1 := cell_on hB mm1
      replace nn0 := cell_on hB nn0
      replace nn1 := cell_on hB nn1
      replace hv := hv.trans (hB.mono hv.size)
      clear hB c15
      have mf := blk_frozen kmm 1
      have h35 : w3.heap.size < w5.heap.size := by have h1 := hz9; omega
      have nq : ¬ w3.heap.size = w5.heap.size := by omega
      go_upto_region 15 with fail
      obtain ⟨w12, hw12⟩ : ∃ w', w11.setCell ⟨w5.heap.size, 1, none⟩ (.int .i64 (m2 - 1)) = w' := ⟨_, rfl⟩
      rw [hw12]
      replace ky : w12.heap[w3.heap.size]? = some (.cells #[.int .u64 sd, .slice A1 chs.length k1, .slice A2 cks.length k2] 32 (0, 0)) := by rw [← hw12]; exact blk_far ky (by simpa using nq) _
      have km : w12.heap[w5.heap.size]? = some (.cells #[.int .i64 m1, .int .i64 (m2 - 1)] 35 (0, 0)) := by rw [← hw12]; exact blk_put kmm 1 _ rfl
      replace hv3 : Below w3.heap.size w3 w12 := by rw [← hw12]; exact hv3.setCell (by simp; omega) _
      have hw3 : w.heap.size ≤ w3.heap.size := hz8
      replace hv : Below w.heap.size w w12 := by rw [← hw12]; exact hv.setCell (by simp; omega) _
      replace hA := hA3.below hv3
      clear hw12 mf kmm y0 y1 y2 mm0 mm1 nn0 nn1
      have y0 : w12.cell? ⟨w3.heap.size, 0, none⟩ = some (.int .u64 sd) := blk_cell ky 0
      have y1 : w12.cell? ⟨w3.heap.size, 1, none⟩ = some (.slice A1 chs.length k1) := blk_cell ky 1
      have y2 : w12.cell? ⟨w3.heap.size, 2, none⟩ = some (.slice A2 cks.length k2) := blk_cell ky 2
      have p0 : w12.cell? ⟨w5.heap.size, 0, none⟩ = some (.int .i64 m1) := blk_cell km 0
      have p1 : w12.cell? ⟨w5.heap.size, 1, none⟩ = some (.int .i64 (m2 - 1)) := blk_cell km 1
      clear ky km
      go_wp2_with fail
      refine (c17 _ _ _ _ _ hv hA).mono ?_
      rintro en w13 ⟨n, E, rfl, hE, hB⟩
      replace hv := hv.trans (hB.mono hv.size)
      clear hB c17 hA hA3 hv3 y0 y1 y2 p0 p1
      rcases hE with ⟨rfl, hn⟩ | rfl
      · have g1 : decide (n ≥ a) = false := decide_eq_false (by omega)
        have g2 : decide (a ≤ n) = false := decide_eq_false (by omega)
        clear hn
        go_wp2_with fail
        refine (aw _ hv).mono ?_
        rintro en w14 ⟨rfl, hB⟩
        replace hv := hv.trans (hB.mono hv.size)
        clear hB aw
        go_wp2
        go_ret
        exact ⟨rfl, hv⟩
      · skip
        go_wp2_with fail
        refine (aw _ hv).mono ?_
        rintro en w14 ⟨rfl, hB⟩
        replace hv := hv.trans (hB.mono hv.size)
        clear hB aw
        go_wp2
        go_ret
        exact ⟨rfl, hv⟩
    · have d3 : decide (m2 > 0) = false := decide_eq_false hp
      have d3' : decide (0 < m2) = false := decide_eq_false hp
      clear c16 hp hm
      go_enter Tryd.func3, Tryd.ntmps3
      go_wp2_with fail
      obtain ⟨w1, hw1⟩ : ∃ w1, w.alloc (.cells #[.int .u64 sd, .slice Ah chs.length hc, .slice Ak cks.length kc] 26) = w1 := ⟨_, rfl⟩
      try rw [hw1]
      have hB : Below w.heap.size w w1 := by rw [← hw1]; exact (Below.refl _ w).alloc (by first | exact Nat.le_refl _ | (simp; done) | (simp; omega)) _
      have kx : w1.heap[w.heap.size]? = some (.cells #[.int .u64 sd, .slice Ah chs.length hc, .slice Ak cks.length kc] 26 (0, 0)) := by rw [← hw1]; exact al_new _ _ _ (by first | rfl | (simp; done) | (simp; omega))
      have x0 : w1.cell? ⟨w.heap.size, 0, none⟩ = some (.int .u64 sd) := blk_cell kx 0
      have x1 : w1.cell? ⟨w.heap.size, 1, none⟩ = some (.slice Ah chs.length hc) := blk_cell kx 1
      have x2 : w1.cell? ⟨w.heap.size, 2, none⟩ = some (.slice Ak cks.length kc) := blk_cell kx 2
      clear kx
      replace hv := hv.trans (hB.mono hv.size)
      clear hB hw1
      refine (c10 _ hv).mono ?_
      rintro en w2 ⟨rfl, hB⟩
      replace x0 := cell_on hB x0
      replace x1 := cell_on hB x1
      replace x2 := cell_on hB x2
      replace hv := hv.trans (hB.mono hv.size)
      clear hB c10
      go_wp2_with fail
      refine (c12 _ hv).mono ?_
      rintro en w3 ⟨A1, k1, A2, k2, rfl, hA, hB⟩
      replace x0 := cell_on hB x0
      replace x1 := cell_on hB x1
      replace x2 := cell_on hB x2
      replace hv := hv.trans (hB.mono hv.size)
      clear hB c12 x0 x1 x2
      go_wp2_with fail
      obtain ⟨w4, hw4⟩ : ∃ w4, w3.alloc (.cells #[.int .u64 sd, .slice A1 chs.length k1, .slice A2 cks.length k2] 32) = w4 := ⟨_, rfl⟩
      try rw [hw4]
      have hB : Below w3.heap.size w3 w4 := by rw [← hw4]; exact (Below.refl _ w3).alloc (by first | exact Nat.le_refl _ | (simp; done) | (simp; omega)) _
      have ky : w4.heap[w3.heap.size]? = some (.cells #[.int .u64 sd, .slice A1 chs.length k1, .slice A2 cks.length k2] 32 (0, 0)) := by rw [← hw4]; exact al_new _ _ _ (by first | rfl | (simp; done) | (simp; omega))
      have y0 : w4.cell? ⟨w3.heap.size, 0, none⟩ = some (.int .u64 sd) := blk_cell ky 0
      have y1 : w4.cell? ⟨w3.heap.size, 1, none⟩ = some (.slice A1 chs.length k1) := blk_cell ky 1
      have y2 : w4.cell? ⟨w3.heap.size, 2, none⟩ = some (.slice A2 cks.length k2) := blk_cell ky 2
      clear ky
      replace hA := hA.below hB
      replace hv := hv.trans (hB.mono hv.size)
      clear hB hw4
      refine (c13a _ _ _ _ _ hv hA).mono ?_
      rintro en w5 ⟨rfl, hB⟩
      replace hA := hA.below hB
      replace y0 := cell_on hB y0
      replace y1 := cell_on hB y1
      replace y2 := cell_on hB y2
      replace hv := hv.trans (hB.mono hv.size)
      clear hB c13a
      go_upto_region 5 with fail
      obtain ⟨w6, hw6⟩ : ∃ w6, w5.alloc (.cells #[.int .i64 m1, .int .i64 m2] 35) = w6 := ⟨_, rfl⟩
      try rw [hw6]
      have hB : Below w5.heap.size w5 w6 := by rw [← hw6]; exact (Below.refl _ w5).alloc (by first | exact Nat.le_refl _ | (simp; done) | (simp; omega)) _
      have kmm : w6.heap[w5.heap.size]? = some (.cells #[.int .i64 m1, .int .i64 m2] 35 (0, 0)) := by rw [← hw6]; exact al_new _ _ _ (by first | rfl | (simp; done) | (simp; omega))
      have mm0 : w6.cell? ⟨w5.heap.size, 0, none⟩ = some (.int .i64 m1) := blk_cell kmm 0
      have mm1 : w6.cell? ⟨w5.heap.size, 1, none⟩ = some (.int .i64 m2) := blk_cell kmm 1
      clear kmm
      replace hA := hA.below hB
      replace y0 := cell_on hB y0
      replace y1 := cell_on hB y1
      replace y2 := cell_on hB y2
      replace hv := hv.trans (hB.mono hv.size)
      clear hB hw6
      go_wp2_with fail
      refine (c13b _ _ _ _ _ hv hA).mono ?_
      rintro en w7 ⟨rfl, hB⟩
      replace hA := hA.below hB
      replace y0 := cell_on hB y0
      replace y1 := cell_on hB y1
      replace y2 := cell_on hB y2
      replace mm0 := cell_on hB mm0
      replace mm1 := cell_on hB mm1
      replace hv := hv.trans (hB.mono hv.size)
      clear hB c13b
      go_upto_region 6 with fail
      obtain ⟨w8, hw8⟩ : ∃ w8, w7.alloc (.cells #[.int .i64 r1, .int .i64 r2] 35) = w8 := ⟨_, rfl⟩
      try rw [hw8]
      have hB : Below w7.heap.size w7 w8 := by rw [← hw8]; exact (Below.refl _ w7).alloc (by first | exact Nat.le_refl _ | (simp; done) | (simp; omega)) _
      have knn : w8.heap[w7.heap.size]? = some (.cells #[.int .i64 r1, .int .i64 r2] 35 (0, 0)) := by rw [← hw8]; exact al_new _ _ _ (by first | rfl | (simp; done) | (simp; omega))
      have nn0 : w8.cell? ⟨w7.heap.size, 0, none⟩ = some (.int .i64 r1) := blk_cell knn 0
      have nn1 : w8.cell? ⟨w7.heap.size, 1, none⟩ = some (.int .i64 r2) := blk_cell knn 1
      clear knn
      replace hA := hA.below hB
      replace y0 := cell_on hB y0
      replace y1 := cell_on hB y1
      replace y2 := cell_on hB y2
      replace mm0 := cell_on hB mm0
      replace mm1 := cell_on hB mm1
      replace hv := hv.trans (hB.mono hv.size)
      clear hB hw8
      go_wp2_with fail
      refine (c14a _).mono ?_
      rintro en w9 ⟨rfl, hB⟩
      replace hA := hA.below hB
      replace y0 := cell_on hB y0
      replace y1 := cell_on hB y1
      replace y2 := cell_on hB y2
      replace mm0 := cell_on hB mm0
      replace mm1 := cell_on hB mm1
      replace nn0 := cell_on hB nn0
      replace nn1 := cell_on hB nn1
      replace hv := hv.trans (hB.mono hv.size)
      clear hB c14a
      go_wp2_with fail
      refine (c14b _).mono ?_
      rintro en w10 ⟨rfl, hB⟩
      replace hA := hA.below hB
      replace y0 := cell_on hB y0
      replace y1 := cell_on hB y1
      replace y2 := cell_on hB y2
      replace mm0 := cell_on hB mm0
      replace mm1 := cell_on hB mm1
      replace nn0 := cell_on hB nn0
      replace nn1 := cell_on hB nn1
      replace hv := hv.trans (hB.mono hv.size)
      clear hB c14b
      go_wp2_with fail
      refine (c15 _ _ _ _ _ hv hA).mono ?_
      rintro en w11 ⟨rfl, hB⟩
      replace hA := hA.below hB
      replace y0 := cell_on hB y0
      replace y1 := cell_on hB y1
      replace y2 := cell_on hB y2
      replace mm0 := cell_on hB mm0
      replace mm1 := cell_on hB mm1
      replace nn0 := cell_on hB nn0
      replace nn1 := cell_on hB nn1
      replace hv := hv.trans (hB.mono hv.size)
      clear hB c15
      go_wp2_with fail
      refine (aw _ hv).mono ?_
      rintro en w12 ⟨rfl, hB⟩
      replace hA := hA.below hB
      replace y0 := cell_on hB y0
      replace y1 := cell_on hB y1
      replace y2 := cell_on hB y2
      replace mm0 := cell_on hB mm0
      replace mm1 := cell_on hB mm1
      replace nn0 := cell_on hB nn0
      replace nn1 := cell_on hB nn1
      replace hv := hv.trans (hB.mono hv.size)
      clear hB aw
      go_wp2
      go_ret
      exact ⟨rfl, hv⟩
end Go.Proofs.YtlfnnalepdjagaaDoor.C
