/- Contracts of Show and Wrap, by hand. -/
import Derived.OwnWalk
import Derived.Deep.RegionHeld3
import Derived.Test.YtjgnadighdbjlaaCg
namespace Go.Proofs.Ytjgnadighdbjlaa.C
open Go.RowKit Go.Shelf Go.Maps Go.Proofs.YtjgnadighdbjlaaW.PrintWords Go.Proofs.YtjgnadighdbjlaaW.PrintLast Go.Proofs.YtjgnadighdbjlaaW.PrintMore
set_option linter.unusedVariables false
set_option linter.unusedSimpArgs false
def inB (d m : Int) : Bool := decide (-m ≤ d) && decide (d ≤ m)
/-- What Show answers. -/
def showR (F O J G R D I seed s d : Int) : Int × Int :=
  if okC F O J G R D I then if readyF D s then if inB d 1000000000000000 then (showF F O J G R I seed s d, 0) else (0, 6) else (0, 21) else (0, 30)
/-- What Wrap answers. -/
def wrapR (F O J G R D I n : Int) : Int × Int :=
  if okC F O J G R D I then if inB n 1000000000000000000 then (wrapF R n, 0) else (0, 6) else (0, 30)
set_option maxHeartbeats 1000000 in
theorem Show_calls (F O J G R D I seed s d : Int) (w : World) :
    Calls Try.prog 20 #[.agg #[.int .i64 F, .int .i64 O, .int .i64 J, .int .i64 G, .int .i64 R, .int .i64 D, .int .i64 I], .int .u64 seed, .int .i64 s, .int .i64 d] w fun e w' => e = .returned (.tuple #[.int .i64 (showR F O J G R D I seed s d).1, .int .i64 (showR F O J G R D I seed s d).2]) ∧ Below w.heap.size w w' := by
  have hv := Below.refl w.heap.size w
  have c1 := fun w => Check_calls F O J G R D I w
  unfold showR
  cases hk : okC F O J G R D I
  · rw [hk, if_neg (by simp)] at c1
    simp only [Bool.false_eq_true, if_false]
    go_enter Try.func20, Try.ntmps20
    go_wp2_with fail
    obtain ⟨w1, hw1⟩ : ∃ w1, w.alloc (.cells #[.int .i64 F, .int .i64 O, .int .i64 J, .int .i64 G, .int .i64 R, .int .i64 D, .int .i64 I] 51) = w1 := ⟨_, rfl⟩
    try rw [hw1]
    have hB : Below w.heap.size w w1 := by rw [← hw1]; exact (Below.refl _ w).alloc (by first | exact Nat.le_refl _ | (simp; done) | (simp; omega)) _
    have kx : w1.heap[w.heap.size]? = some (.cells #[.int .i64 F, .int .i64 O, .int .i64 J, .int .i64 G, .int .i64 R, .int .i64 D, .int .i64 I] 51 (0, 0)) := by rw [← hw1]; exact al_new _ _ _ (by first | rfl | (simp; done) | (simp; omega))
    have x0 : w1.cell? ⟨w.heap.size, 0, none⟩ = some (.int .i64 F) := blk_cell kx 0
    have x1 : w1.cell? ⟨w.heap.size, 1, none⟩ = some (.int .i64 O) := blk_cell kx 1
    have x2 : w1.cell? ⟨w.heap.size, 2, none⟩ = some (.int .i64 J) := blk_cell kx 2
    have x3 : w1.cell? ⟨w.heap.size, 3, none⟩ = some (.int .i64 G) := blk_cell kx 3
    have x4 : w1.cell? ⟨w.heap.size, 4, none⟩ = some (.int .i64 R) := blk_cell kx 4
    have x5 : w1.cell? ⟨w.heap.size, 5, none⟩ = some (.int .i64 D) := blk_cell kx 5
    have x6 : w1.cell? ⟨w.heap.size, 6, none⟩ = some (.int .i64 I) := blk_cell kx 6
    clear kx
    replace hv := hv.trans (hB.mono hv.size)
    clear hB hw1
    have hs1 := World.block_lt_of_cell? _ _ x0
    refine (c1 _).mono ?_
    rintro en w2 ⟨rfl, hB⟩
    replace x0 := cell_on hB x0
    replace x1 := cell_on hB x1
    replace x2 := cell_on hB x2
    replace x3 := cell_on hB x3
    replace x4 := cell_on hB x4
    replace x5 := cell_on hB x5
    replace x6 := cell_on hB x6
    replace hv := hv.trans (hB.mono hv.size)
    clear hB c1
    go_wp2_with fail
    go_ret2
    exact ⟨rfl, hv⟩
  · rw [hk, if_pos rfl] at c1
    simp only [if_true]
    have HK := CtrOk.of hk
    have c2 := fun w => ready_calls F O J G R D I s w HK.d
    cases hr : readyF D s
    · rw [hr] at c2
      simp only [Bool.false_eq_true, if_false]
      go_enter Try.func20, Try.ntmps20
      go_wp2_with fail
      obtain ⟨w1, hw1⟩ : ∃ w1, w.alloc (.cells #[.int .i64 F, .int .i64 O, .int .i64 J, .int .i64 G, .int .i64 R, .int .i64 D, .int .i64 I] 51) = w1 := ⟨_, rfl⟩
      try rw [hw1]
      have hB : Below w.heap.size w w1 := by rw [← hw1]; exact (Below.refl _ w).alloc (by first | exact Nat.le_refl _ | (simp; done) | (simp; omega)) _
      have kx : w1.heap[w.heap.size]? = some (.cells #[.int .i64 F, .int .i64 O, .int .i64 J, .int .i64 G, .int .i64 R, .int .i64 D, .int .i64 I] 51 (0, 0)) := by rw [← hw1]; exact al_new _ _ _ (by first | rfl | (simp; done) | (simp; omega))
      have x0 : w1.cell? ⟨w.heap.size, 0, none⟩ = some (.int .i64 F) := blk_cell kx 0
      have x1 : w1.cell? ⟨w.heap.size, 1, none⟩ = some (.int .i64 O) := blk_cell kx 1
      have x2 : w1.cell? ⟨w.heap.size, 2, none⟩ = some (.int .i64 J) := blk_cell kx 2
      have x3 : w1.cell? ⟨w.heap.size, 3, none⟩ = some (.int .i64 G) := blk_cell kx 3
      have x4 : w1.cell? ⟨w.heap.size, 4, none⟩ = some (.int .i64 R) := blk_cell kx 4
      have x5 : w1.cell? ⟨w.heap.size, 5, none⟩ = some (.int .i64 D) := blk_cell kx 5
      have x6 : w1.cell? ⟨w.heap.size, 6, none⟩ = some (.int .i64 I) := blk_cell kx 6
      clear kx
      replace hv := hv.trans (hB.mono hv.size)
      clear hB hw1
      have hs1 := World.block_lt_of_cell? _ _ x0
      refine (c1 _).mono ?_
      rintro en w2 ⟨rfl, hB⟩
      replace x0 := cell_on hB x0
      replace x1 := cell_on hB x1
      replace x2 := cell_on hB x2
      replace x3 := cell_on hB x3
      replace x4 := cell_on hB x4
      replace x5 := cell_on hB x5
      replace x6 := cell_on hB x6
      replace hv := hv.trans (hB.mono hv.size)
      clear hB c1
      go_wp2_with fail
      refine (c2 _).mono ?_
      rintro en w3 ⟨rfl, hB⟩
      replace x0 := cell_on hB x0
      replace x1 := cell_on hB x1
      replace x2 := cell_on hB x2
      replace x3 := cell_on hB x3
      replace x4 := cell_on hB x4
      replace x5 := cell_on hB x5
      replace x6 := cell_on hB x6
      replace hv := hv.trans (hB.mono hv.size)
      clear hB c2
      go_wp2_with fail
      go_ret2
      exact ⟨rfl, hv⟩
    · rw [hr] at c2
      simp only [if_true]
      have hs : 0 ≤ s ∧ s ≤ 1000000 := by unfold readyF at hr; simp at hr; omega
      have c3 := fun w => in_calls d (-1000000000000000) 1000000000000000 w
      rw [show (decide (-1000000000000000 ≤ d) && decide (d ≤ 1000000000000000)) = inB d 1000000000000000 from rfl] at c3
      cases hd : inB d 1000000000000000
      · rw [hd] at c3
        simp only [Bool.false_eq_true, if_false]
        go_enter Try.func20, Try.ntmps20
        go_wp2_with fail
        obtain ⟨w1, hw1⟩ : ∃ w1, w.alloc (.cells #[.int .i64 F, .int .i64 O, .int .i64 J, .int .i64 G, .int .i64 R, .int .i64 D, .int .i64 I] 51) = w1 := ⟨_, rfl⟩
        try rw [hw1]
        have hB : Below w.heap.size w w1 := by rw [← hw1]; exact (Below.refl _ w).alloc (by first | exact Nat.le_refl _ | (simp; done) | (simp; omega)) _
        have kx : w1.heap[w.heap.size]? = some (.cells #[.int .i64 F, .int .i64 O, .int .i64 J, .int .i64 G, .int .i64 R, .int .i64 D, .int .i64 I] 51 (0, 0)) := by rw [← hw1]; exact al_new _ _ _ (by first | rfl | (simp; done) | (simp; omega))
        have x0 : w1.cell? ⟨w.heap.size, 0, none⟩ = some (.int .i64 F) := blk_cell kx 0
        have x1 : w1.cell? ⟨w.heap.size, 1, none⟩ = some (.int .i64 O) := blk_cell kx 1
        have x2 : w1.cell? ⟨w.heap.size, 2, none⟩ = some (.int .i64 J) := blk_cell kx 2
        have x3 : w1.cell? ⟨w.heap.size, 3, none⟩ = some (.int .i64 G) := blk_cell kx 3
        have x4 : w1.cell? ⟨w.heap.size, 4, none⟩ = some (.int .i64 R) := blk_cell kx 4
        have x5 : w1.cell? ⟨w.heap.size, 5, none⟩ = some (.int .i64 D) := blk_cell kx 5
        have x6 : w1.cell? ⟨w.heap.size, 6, none⟩ = some (.int .i64 I) := blk_cell kx 6
        clear kx
        replace hv := hv.trans (hB.mono hv.size)
        clear hB hw1
        have hs1 := World.block_lt_of_cell? _ _ x0
        refine (c1 _).mono ?_
        rintro en w2 ⟨rfl, hB⟩
        replace x0 := cell_on hB x0
        replace x1 := cell_on hB x1
        replace x2 := cell_on hB x2
        replace x3 := cell_on hB x3
        replace x4 := cell_on hB x4
        replace x5 := cell_on hB x5
        replace x6 := cell_on hB x6
        replace hv := hv.trans (hB.mono hv.size)
        clear hB c1
        go_wp2_with fail
        refine (c2 _).mono ?_
        rintro en w3 ⟨rfl, hB⟩
        replace x0 := cell_on hB x0
        replace x1 := cell_on hB x1
        replace x2 := cell_on hB x2
        replace x3 := cell_on hB x3
        replace x4 := cell_on hB x4
        replace x5 := cell_on hB x5
        replace x6 := cell_on hB x6
        replace hv := hv.trans (hB.mono hv.size)
        clear hB c2
        go_wp2_with fail
        refine (c3 _).mono ?_
        rintro en w4 ⟨rfl, hB⟩
        replace x0 := cell_on hB x0
        replace x1 := cell_on hB x1
        replace x2 := cell_on hB x2
        replace x3 := cell_on hB x3
        replace x4 := cell_on hB x4
        replace x5 := cell_on hB x5
        replace x6 := cell_on hB x6
        replace hv := hv.trans (hB.mono hv.size)
        clear hB c3
        go_wp2_with fail
        go_ret2
        exact ⟨rfl, hv⟩
      · rw [hd] at c3
        simp only [if_true]
        have hd2 : -1000000000000000 ≤ d ∧ d ≤ 1000000000000000 := by unfold inB at hd; simp at hd; omega
        have c4 := fun w => show_calls F O J G R D I seed s d w HK hs hd2
        clear HK hk hr hd
        go_enter Try.func20, Try.ntmps20
        go_wp2_with fail
        obtain ⟨w1, hw1⟩ : ∃ w1, w.alloc (.cells #[.int .i64 F, .int .i64 O, .int .i64 J, .int .i64 G, .int .i64 R, .int .i64 D, .int .i64 I] 51) = w1 := ⟨_, rfl⟩
        try rw [hw1]
        have hB : Below w.heap.size w w1 := by rw [← hw1]; exact (Below.refl _ w).alloc (by first | exact Nat.le_refl _ | (simp; done) | (simp; omega)) _
        have kx : w1.heap[w.heap.size]? = some (.cells #[.int .i64 F, .int .i64 O, .int .i64 J, .int .i64 G, .int .i64 R, .int .i64 D, .int .i64 I] 51 (0, 0)) := by rw [← hw1]; exact al_new _ _ _ (by first | rfl | (simp; done) | (simp; omega))
        have x0 : w1.cell? ⟨w.heap.size, 0, none⟩ = some (.int .i64 F) := blk_cell kx 0
        have x1 : w1.cell? ⟨w.heap.size, 1, none⟩ = some (.int .i64 O) := blk_cell kx 1
        have x2 : w1.cell? ⟨w.heap.size, 2, none⟩ = some (.int .i64 J) := blk_cell kx 2
        have x3 : w1.cell? ⟨w.heap.size, 3, none⟩ = some (.int .i64 G) := blk_cell kx 3
        have x4 : w1.cell? ⟨w.heap.size, 4, none⟩ = some (.int .i64 R) := blk_cell kx 4
        have x5 : w1.cell? ⟨w.heap.size, 5, none⟩ = some (.int .i64 D) := blk_cell kx 5
        have x6 : w1.cell? ⟨w.heap.size, 6, none⟩ = some (.int .i64 I) := blk_cell kx 6
        clear kx
        replace hv := hv.trans (hB.mono hv.size)
        clear hB hw1
        have hs1 := World.block_lt_of_cell? _ _ x0
        refine (c1 _).mono ?_
        rintro en w2 ⟨rfl, hB⟩
        replace x0 := cell_on hB x0
        replace x1 := cell_on hB x1
        replace x2 := cell_on hB x2
        replace x3 := cell_on hB x3
        replace x4 := cell_on hB x4
        replace x5 := cell_on hB x5
        replace x6 := cell_on hB x6
        replace hv := hv.trans (hB.mono hv.size)
        clear hB c1
        go_wp2_with fail
        refine (c2 _).mono ?_
        rintro en w3 ⟨rfl, hB⟩
        replace x0 := cell_on hB x0
        replace x1 := cell_on hB x1
        replace x2 := cell_on hB x2
        replace x3 := cell_on hB x3
        replace x4 := cell_on hB x4
        replace x5 := cell_on hB x5
        replace x6 := cell_on hB x6
        replace hv := hv.trans (hB.mono hv.size)
        clear hB c2
        go_wp2_with fail
        refine (c3 _).mono ?_
        rintro en w4 ⟨rfl, hB⟩
        replace x0 := cell_on hB x0
        replace x1 := cell_on hB x1
        replace x2 := cell_on hB x2
        replace x3 := cell_on hB x3
        replace x4 := cell_on hB x4
        replace x5 := cell_on hB x5
        replace x6 := cell_on hB x6
        replace hv := hv.trans (hB.mono hv.size)
        clear hB c3
        go_wp2_with fail
        refine (c4 _).mono ?_
        rintro en w5 ⟨rfl, hB⟩
        replace x0 := cell_on hB x0
        replace x1 := cell_on hB x1
        replace x2 := cell_on hB x2
        replace x3 := cell_on hB x3
        replace x4 := cell_on hB x4
        replace x5 := cell_on hB x5
        replace x6 := cell_on hB x6
        replace hv := hv.trans (hB.mono hv.size)
        clear hB c4
        go_wp2_with fail
        go_ret2
        exact ⟨rfl, hv⟩
set_option maxHeartbeats 1000000 in
theorem Wrap_calls (F O J G R D I n : Int) (w : World) :
    Calls Try.prog 23 #[.agg #[.int .i64 F, .int .i64 O, .int .i64 J, .int .i64 G, .int .i64 R, .int .i64 D, .int .i64 I], .int .i64 n] w fun e w' => e = .returned (.tuple #[.int .i64 (wrapR F O J G R D I n).1, .int .i64 (wrapR F O J G R D I n).2]) ∧ Below w.heap.size w w' := by
  have hv := Below.refl w.heap.size w
  have c1 := fun w => Check_calls F O J G R D I w
  unfold wrapR
  cases hk : okC F O J G R D I
  · rw [hk, if_neg (by simp)] at c1
    simp only [Bool.false_eq_true, if_false]
    go_enter Try.func23, Try.ntmps23
    go_wp2_with fail
    obtain ⟨w1, hw1⟩ : ∃ w1, w.alloc (.cells #[.int .i64 F, .int .i64 O, .int .i64 J, .int .i64 G, .int .i64 R, .int .i64 D, .int .i64 I] 51) = w1 := ⟨_, rfl⟩
    try rw [hw1]
    have hB : Below w.heap.size w w1 := by rw [← hw1]; exact (Below.refl _ w).alloc (by first | exact Nat.le_refl _ | (simp; done) | (simp; omega)) _
    have kx : w1.heap[w.heap.size]? = some (.cells #[.int .i64 F, .int .i64 O, .int .i64 J, .int .i64 G, .int .i64 R, .int .i64 D, .int .i64 I] 51 (0, 0)) := by rw [← hw1]; exact al_new _ _ _ (by first | rfl | (simp; done) | (simp; omega))
    have x0 : w1.cell? ⟨w.heap.size, 0, none⟩ = some (.int .i64 F) := blk_cell kx 0
    have x1 : w1.cell? ⟨w.heap.size, 1, none⟩ = some (.int .i64 O) := blk_cell kx 1
    have x2 : w1.cell? ⟨w.heap.size, 2, none⟩ = some (.int .i64 J) := blk_cell kx 2
    have x3 : w1.cell? ⟨w.heap.size, 3, none⟩ = some (.int .i64 G) := blk_cell kx 3
    have x4 : w1.cell? ⟨w.heap.size, 4, none⟩ = some (.int .i64 R) := blk_cell kx 4
    have x5 : w1.cell? ⟨w.heap.size, 5, none⟩ = some (.int .i64 D) := blk_cell kx 5
    have x6 : w1.cell? ⟨w.heap.size, 6, none⟩ = some (.int .i64 I) := blk_cell kx 6
    clear kx
    replace hv := hv.trans (hB.mono hv.size)
    clear hB hw1
    have hs1 := World.block_lt_of_cell? _ _ x0
    refine (c1 _).mono ?_
    rintro en w2 ⟨rfl, hB⟩
    replace x0 := cell_on hB x0
    replace x1 := cell_on hB x1
    replace x2 := cell_on hB x2
    replace x3 := cell_on hB x3
    replace x4 := cell_on hB x4
    replace x5 := cell_on hB x5
    replace x6 := cell_on hB x6
    replace hv := hv.trans (hB.mono hv.size)
    clear hB c1
    go_wp2_with fail
    go_ret2
    exact ⟨rfl, hv⟩
  · rw [hk, if_pos rfl] at c1
    simp only [if_true]
    have HK := CtrOk.of hk
    have c3 := fun w => in_calls n (-1000000000000000000) 1000000000000000000 w
    rw [show (decide (-1000000000000000000 ≤ n) && decide (n ≤ 1000000000000000000)) = inB n 1000000000000000000 from rfl] at c3
    cases hd : inB n 1000000000000000000
    · rw [hd] at c3
      simp only [Bool.false_eq_true, if_false]
      go_enter Try.func23, Try.ntmps23
      go_wp2_with fail
      obtain ⟨w1, hw1⟩ : ∃ w1, w.alloc (.cells #[.int .i64 F, .int .i64 O, .int .i64 J, .int .i64 G, .int .i64 R, .int .i64 D, .int .i64 I] 51) = w1 := ⟨_, rfl⟩
      try rw [hw1]
      have hB : Below w.heap.size w w1 := by rw [← hw1]; exact (Below.refl _ w).alloc (by first | exact Nat.le_refl _ | (simp; done) | (simp; omega)) _
      have kx : w1.heap[w.heap.size]? = some (.cells #[.int .i64 F, .int .i64 O, .int .i64 J, .int .i64 G, .int .i64 R, .int .i64 D, .int .i64 I] 51 (0, 0)) := by rw [← hw1]; exact al_new _ _ _ (by first | rfl | (simp; done) | (simp; omega))
      have x0 : w1.cell? ⟨w.heap.size, 0, none⟩ = some (.int .i64 F) := blk_cell kx 0
      have x1 : w1.cell? ⟨w.heap.size, 1, none⟩ = some (.int .i64 O) := blk_cell kx 1
      have x2 : w1.cell? ⟨w.heap.size, 2, none⟩ = some (.int .i64 J) := blk_cell kx 2
      have x3 : w1.cell? ⟨w.heap.size, 3, none⟩ = some (.int .i64 G) := blk_cell kx 3
      have x4 : w1.cell? ⟨w.heap.size, 4, none⟩ = some (.int .i64 R) := blk_cell kx 4
      have x5 : w1.cell? ⟨w.heap.size, 5, none⟩ = some (.int .i64 D) := blk_cell kx 5
      have x6 : w1.cell? ⟨w.heap.size, 6, none⟩ = some (.int .i64 I) := blk_cell kx 6
      clear kx
      replace hv := hv.trans (hB.mono hv.size)
      clear hB hw1
      have hs1 := World.block_lt_of_cell? _ _ x0
      refine (c1 _).mono ?_
      rintro en w2 ⟨rfl, hB⟩
      replace x0 := cell_on hB x0
      replace x1 := cell_on hB x1
      replace x2 := cell_on hB x2
      replace x3 := cell_on hB x3
      replace x4 := cell_on hB x4
      replace x5 := cell_on hB x5
      replace x6 := cell_on hB x6
      replace hv := hv.trans (hB.mono hv.size)
      clear hB c1
      go_wp2_with fail
      refine (c3 _).mono ?_
      rintro en w3 ⟨rfl, hB⟩
      replace x0 := cell_on hB x0
      replace x1 := cell_on hB x1
      replace x2 := cell_on hB x2
      replace x3 := cell_on hB x3
      replace x4 := cell_on hB x4
      replace x5 := cell_on hB x5
      replace x6 := cell_on hB x6
      replace hv := hv.trans (hB.mono hv.size)
      clear hB c3
      go_wp2_with fail
      go_ret2
      exact ⟨rfl, hv⟩
    · rw [hd] at c3
      simp only [if_true]
      have hd2 : -1000000000000000000 ≤ n ∧ n ≤ 1000000000000000000 := by unfold inB at hd; simp at hd; omega
      have c4 := fun w => wrap_calls F O J G R D I n w HK.r (by omega)
      clear HK hk hd
      go_enter Try.func23, Try.ntmps23
      go_wp2_with fail
      obtain ⟨w1, hw1⟩ : ∃ w1, w.alloc (.cells #[.int .i64 F, .int .i64 O, .int .i64 J, .int .i64 G, .int .i64 R, .int .i64 D, .int .i64 I] 51) = w1 := ⟨_, rfl⟩
      try rw [hw1]
      have hB : Below w.heap.size w w1 := by rw [← hw1]; exact (Below.refl _ w).alloc (by first | exact Nat.le_refl _ | (simp; done) | (simp; omega)) _
      have kx : w1.heap[w.heap.size]? = some (.cells #[.int .i64 F, .int .i64 O, .int .i64 J, .int .i64 G, .int .i64 R, .int .i64 D, .int .i64 I] 51 (0, 0)) := by rw [← hw1]; exact al_new _ _ _ (by first | rfl | (simp; done) | (simp; omega))
      have x0 : w1.cell? ⟨w.heap.size, 0, none⟩ = some (.int .i64 F) := blk_cell kx 0
      have x1 : w1.cell? ⟨w.heap.size, 1, none⟩ = some (.int .i64 O) := blk_cell kx 1
      have x2 : w1.cell? ⟨w.heap.size, 2, none⟩ = some (.int .i64 J) := blk_cell kx 2
      have x3 : w1.cell? ⟨w.heap.size, 3, none⟩ = some (.int .i64 G) := blk_cell kx 3
      have x4 : w1.cell? ⟨w.heap.size, 4, none⟩ = some (.int .i64 R) := blk_cell kx 4
      have x5 : w1.cell? ⟨w.heap.size, 5, none⟩ = some (.int .i64 D) := blk_cell kx 5
      have x6 : w1.cell? ⟨w.heap.size, 6, none⟩ = some (.int .i64 I) := blk_cell kx 6
      clear kx
      replace hv := hv.trans (hB.mono hv.size)
      clear hB hw1
      have hs1 := World.block_lt_of_cell? _ _ x0
      refine (c1 _).mono ?_
      rintro en w2 ⟨rfl, hB⟩
      replace x0 := cell_on hB x0
      replace x1 := cell_on hB x1
      replace x2 := cell_on hB x2
      replace x3 := cell_on hB x3
      replace x4 := cell_on hB x4
      replace x5 := cell_on hB x5
      replace x6 := cell_on hB x6
      replace hv := hv.trans (hB.mono hv.size)
      clear hB c1
      go_wp2_with fail
      refine (c3 _).mono ?_
      rintro en w3 ⟨rfl, hB⟩
      replace x0 := cell_on hB x0
      replace x1 := cell_on hB x1
      replace x2 := cell_on hB x2
      replace x3 := cell_on hB x3
      replace x4 := cell_on hB x4
      replace x5 := cell_on hB x5
      replace x6 := cell_on hB x6
      replace hv := hv.trans (hB.mono hv.size)
      clear hB c3
      go_wp2_with fail
      refine (c4 _).mono ?_
      rintro en w4 ⟨rfl, hB⟩
      replace x0 := cell_on hB x0
      replace x1 := cell_on hB x1
      replace x2 := cell_on hB x2
      replace x3 := cell_on hB x3
      replace x4 := cell_on hB x4
      replace x5 := cell_on hB x5
      replace x6 := cell_on hB x6
      replace hv := hv.trans (hB.mono hv.size)
      clear hB c4
      go_wp2_with fail
      go_ret2
      exact ⟨rfl, hv⟩
end Go.Proofs.Ytjgnadighdbjlaa.C
