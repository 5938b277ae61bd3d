/- The contract of Resolve, by hand. -/
import Derived.OwnWalk
import Derived.Deep.RegionHeld3
import Derived.Test.YtjgnadighdbjlaaCl
namespace Go.Proofs.Ytjgnadighdbjlaa.C
open Go.RowKit Go.Shelf Go.Maps Go.Proofs.YtjgnadighdbjlaaW.PrintWords Go.Proofs.YtjgnadighdbjlaaW.PrintLast Go.Proofs.YtjgnadighdbjlaaW.PrintMore
set_option linter.unusedVariables false
set_option linter.unusedSimpArgs false
/-- What Resolve answers. -/
def resolveR (F O J G R D I m lo hi : Int) : Value :=
  if okC F O J G R D I then if shownF R m && inB lo 1000000000000000 && inB hi 1000000000000000 then if lo ≤ hi then resV (turnsL F O R (J + G / 2) m lo hi (firstF F O R (J + G / 2) m lo) (2 * F + 5).toNat) else (.tuple #[.agg #[.int .i64 0, .int .i64 0], .int .i64 1]) else (.tuple #[.agg #[.int .i64 0, .int .i64 0], .int .i64 6]) else (.tuple #[.agg #[.int .i64 0, .int .i64 0], .int .i64 30])
theorem res_spant {fn : Func} {p q : Tmp} (h : fn.results = #[.cell p 43, .tmp q]) (tmps : Array Value) (w : World) (g : Nat) (a b : Int) (e : Value)
    (hp : tmps.getD p undef = .pointer (some ⟨g, 0, none⟩)) (hq : tmps.getD q undef = e) (h0 : w.cell? ⟨g, 0, none⟩ = some (.int .i64 a)) (h1 : w.cell? ⟨g, 1, none⟩ = some (.int .i64 b)) :
    (results fn tmps).run Try.prog w = .ok (.tuple #[.agg #[.int .i64 a, .int .i64 b], e]) w := by
  have hp' : tmps[p]?.getD undef = .pointer (some ⟨g, 0, none⟩) := by simpa using hp
  have hq' : tmps[q]?.getD undef = e := by simpa using hq
  have l1 : (loadVar 43 ⟨g, 0, none⟩).run Try.prog w = .ok (.agg #[.int .i64 a, .int .i64 b]) w := by go_simp
  simp [results, h, hp', hq', asAddr, l1]
theorem resV_is (L : List (Int × Int)) : ∃ a b e : Int, resV L = .tuple #[.agg #[.int .i64 a, .int .i64 b], .int .i64 e] := by
  unfold resV
  split
  · exact ⟨_, _, _, rfl⟩
  · exact ⟨_, _, _, rfl⟩
  · exact ⟨_, _, _, rfl⟩
set_option maxHeartbeats 1000000 in
theorem Resolve_calls (F O J G R D I m lo hi : Int) (w : World) :
    Calls Try.prog 21 #[.agg #[.int .i64 F, .int .i64 O, .int .i64 J, .int .i64 G, .int .i64 R, .int .i64 D, .int .i64 I], .int .i64 m, .agg #[.int .i64 lo, .int .i64 hi]] w fun e w' => e = .returned (resolveR F O J G R D I m lo hi) ∧ Below w.heap.size w w' := by
  have hv := Below.refl w.heap.size w
  have c1 := fun w => Check_calls F O J G R D I w
  unfold resolveR
  cases hk : okC F O J G R D I
  · rw [hk, if_neg (by simp)] at c1
    simp only [Bool.false_eq_true, if_false]
    go_enter Try.func21, Try.ntmps21
    go_wp2_with fail
    obtain ⟨w1, hw1⟩ : ∃ w1, ((w.alloc (.cells #[.int .i64 F, .int .i64 O, .int .i64 J, .int .i64 G, .int .i64 R, .int .i64 D, .int .i64 I] 51)).alloc (.cells #[.int .i64 lo, .int .i64 hi] 43)).alloc (.cells #[.int .i64 0, .int .i64 0] 43) = w1 := ⟨_, rfl⟩
    try rw [hw1]
    have hB : Below w.heap.size w w1 := by rw [← hw1]; exact (((Below.refl _ w).alloc (by first | exact Nat.le_refl _ | (simp; done) | (simp; omega)) _).alloc (by first | exact Nat.le_refl _ | (simp; done) | (simp; omega)) _).alloc (by first | exact Nat.le_refl _ | (simp; done) | (simp; omega)) _
    have kx : w1.heap[w.heap.size]? = some (.cells #[.int .i64 F, .int .i64 O, .int .i64 J, .int .i64 G, .int .i64 R, .int .i64 D, .int .i64 I] 51 (0, 0)) := by rw [← hw1]; exact al_old (al_old (al_new _ _ _ (by first | rfl | (simp; done) | (simp; omega))))
    have x0 : w1.cell? ⟨w.heap.size, 0, none⟩ = some (.int .i64 F) := blk_cell kx 0
    have x1 : w1.cell? ⟨w.heap.size, 1, none⟩ = some (.int .i64 O) := blk_cell kx 1
    have x2 : w1.cell? ⟨w.heap.size, 2, none⟩ = some (.int .i64 J) := blk_cell kx 2
    have x3 : w1.cell? ⟨w.heap.size, 3, none⟩ = some (.int .i64 G) := blk_cell kx 3
    have x4 : w1.cell? ⟨w.heap.size, 4, none⟩ = some (.int .i64 R) := blk_cell kx 4
    have x5 : w1.cell? ⟨w.heap.size, 5, none⟩ = some (.int .i64 D) := blk_cell kx 5
    have x6 : w1.cell? ⟨w.heap.size, 6, none⟩ = some (.int .i64 I) := blk_cell kx 6
    clear kx
    have kp : w1.heap[w.heap.size + 1]? = some (.cells #[.int .i64 lo, .int .i64 hi] 43 (0, 0)) := by rw [← hw1]; exact al_old (al_new _ _ _ (by first | rfl | (simp; done) | (simp; omega)))
    have p0 : w1.cell? ⟨w.heap.size + 1, 0, none⟩ = some (.int .i64 lo) := blk_cell kp 0
    have p1 : w1.cell? ⟨w.heap.size + 1, 1, none⟩ = some (.int .i64 hi) := blk_cell kp 1
    clear kp
    have kr : w1.heap[w.heap.size + 1 + 1]? = some (.cells #[.int .i64 0, .int .i64 0] 43 (0, 0)) := by rw [← hw1]; exact al_new _ _ _ (by first | rfl | (simp; done) | (simp; omega))
    have r0 : w1.cell? ⟨w.heap.size + 1 + 1, 0, none⟩ = some (.int .i64 0) := blk_cell kr 0
    have r1 : w1.cell? ⟨w.heap.size + 1 + 1, 1, none⟩ = some (.int .i64 0) := blk_cell kr 1
    clear r0 r1
    replace hv := hv.trans (hB.mono hv.size)
    clear hB hw1
    have hs1 := World.block_lt_of_cell? _ _ x0
    have hs2 := World.block_lt_of_cell? _ _ p0
    have hs3 := blk_lt kr
    refine (c1 _).mono ?_
    rintro en w2 ⟨rfl, hB⟩
    replace kr := blk_on hB kr
    replace x0 := cell_on hB x0
    replace x1 := cell_on hB x1
    replace x2 := cell_on hB x2
    replace x3 := cell_on hB x3
    replace x4 := cell_on hB x4
    replace x5 := cell_on hB x5
    replace x6 := cell_on hB x6
    replace p0 := cell_on hB p0
    replace p1 := cell_on hB p1
    replace hv := hv.trans (hB.mono hv.size)
    clear hB c1
    have krc0 : w2.cell? ⟨w.heap.size + 1 + 1, 0, none⟩ = some (.int .i64 0) := blk_cell kr 0
    have krf0 : w2.frozen? ⟨w.heap.size + 1 + 1, 0, none⟩ = false := blk_frozen kr 0
    have krc1 : w2.cell? ⟨w.heap.size + 1 + 1, 1, none⟩ = some (.int .i64 0) := blk_cell kr 1
    have krf1 : w2.frozen? ⟨w.heap.size + 1 + 1, 1, none⟩ = false := blk_frozen kr 1
    go_wp2_with fail
    refine bodyPost_ret (res_spant (p := 6) (q := 7) rfl _ _ (w.heap.size + 1 + 1) (0) (0) (.int .i64 30) (by simp) (by simp) (blk_cell (blk_put (blk_put kr 0 _ rfl) 1 _ rfl) 0) (blk_cell (blk_put (blk_put kr 0 _ rfl) 1 _ rfl) 1)) rfl ?_
    exact ⟨rfl, (hv.setCell (by simp; omega) _).setCell (by simp; omega) _⟩
  · rw [hk, if_pos rfl] at c1
    simp only [if_true]
    have HK := CtrOk.of hk
    have c2 := fun w => shown_calls F O J G R D I m w HK.r HK.even
    have c3 := fun w => in_calls lo (-1000000000000000) 1000000000000000 w
    have c4 := fun w => in_calls hi (-1000000000000000) 1000000000000000 w
    rw [show (decide (-1000000000000000 ≤ lo) && decide (lo ≤ 1000000000000000)) = inB lo 1000000000000000 from rfl] at c3
    rw [show (decide (-1000000000000000 ≤ hi) && decide (hi ≤ 1000000000000000)) = inB hi 1000000000000000 from rfl] at c4
    cases hs : shownF R m
    · rw [hs] at c2
      simp only [Bool.false_and, Bool.false_eq_true, if_false]
      go_enter Try.func21, Try.ntmps21
      go_wp2_with fail
      obtain ⟨w1, hw1⟩ : ∃ w1, ((w.alloc (.cells #[.int .i64 F, .int .i64 O, .int .i64 J, .int .i64 G, .int .i64 R, .int .i64 D, .int .i64 I] 51)).alloc (.cells #[.int .i64 lo, .int .i64 hi] 43)).alloc (.cells #[.int .i64 0, .int .i64 0] 43) = w1 := ⟨_, rfl⟩
      try rw [hw1]
      have hB : Below w.heap.size w w1 := by rw [← hw1]; exact (((Below.refl _ w).alloc (by first | exact Nat.le_refl _ | (simp; done) | (simp; omega)) _).alloc (by first | exact Nat.le_refl _ | (simp; done) | (simp; omega)) _).alloc (by first | exact Nat.le_refl _ | (simp; done) | (simp; omega)) _
      have kx : w1.heap[w.heap.size]? = some (.cells #[.int .i64 F, .int .i64 O, .int .i64 J, .int .i64 G, .int .i64 R, .int .i64 D, .int .i64 I] 51 (0, 0)) := by rw [← hw1]; exact al_old (al_old (al_new _ _ _ (by first | rfl | (simp; done) | (simp; omega))))
      have x0 : w1.cell? ⟨w.heap.size, 0, none⟩ = some (.int .i64 F) := blk_cell kx 0
      have x1 : w1.cell? ⟨w.heap.size, 1, none⟩ = some (.int .i64 O) := blk_cell kx 1
      have x2 : w1.cell? ⟨w.heap.size, 2, none⟩ = some (.int .i64 J) := blk_cell kx 2
      have x3 : w1.cell? ⟨w.heap.size, 3, none⟩ = some (.int .i64 G) := blk_cell kx 3
      have x4 : w1.cell? ⟨w.heap.size, 4, none⟩ = some (.int .i64 R) := blk_cell kx 4
      have x5 : w1.cell? ⟨w.heap.size, 5, none⟩ = some (.int .i64 D) := blk_cell kx 5
      have x6 : w1.cell? ⟨w.heap.size, 6, none⟩ = some (.int .i64 I) := blk_cell kx 6
      clear kx
      have kp : w1.heap[w.heap.size + 1]? = some (.cells #[.int .i64 lo, .int .i64 hi] 43 (0, 0)) := by rw [← hw1]; exact al_old (al_new _ _ _ (by first | rfl | (simp; done) | (simp; omega)))
      have p0 : w1.cell? ⟨w.heap.size + 1, 0, none⟩ = some (.int .i64 lo) := blk_cell kp 0
      have p1 : w1.cell? ⟨w.heap.size + 1, 1, none⟩ = some (.int .i64 hi) := blk_cell kp 1
      clear kp
      have kr : w1.heap[w.heap.size + 1 + 1]? = some (.cells #[.int .i64 0, .int .i64 0] 43 (0, 0)) := by rw [← hw1]; exact al_new _ _ _ (by first | rfl | (simp; done) | (simp; omega))
      have r0 : w1.cell? ⟨w.heap.size + 1 + 1, 0, none⟩ = some (.int .i64 0) := blk_cell kr 0
      have r1 : w1.cell? ⟨w.heap.size + 1 + 1, 1, none⟩ = some (.int .i64 0) := blk_cell kr 1
      clear r0 r1
      replace hv := hv.trans (hB.mono hv.size)
      clear hB hw1
      have hs1 := World.block_lt_of_cell? _ _ x0
      have hs2 := World.block_lt_of_cell? _ _ p0
      have hs3 := blk_lt kr
      refine (c1 _).mono ?_
      rintro en w2 ⟨rfl, hB⟩
      replace kr := blk_on hB kr
      replace x0 := cell_on hB x0
      replace x1 := cell_on hB x1
      replace x2 := cell_on hB x2
      replace x3 := cell_on hB x3
      replace x4 := cell_on hB x4
      replace x5 := cell_on hB x5
      replace x6 := cell_on hB x6
      replace p0 := cell_on hB p0
      replace p1 := cell_on hB p1
      replace hv := hv.trans (hB.mono hv.size)
      clear hB c1
      go_wp2_with fail
      refine (c2 _).mono ?_
      rintro en w3 ⟨rfl, hB⟩
      replace kr := blk_on hB kr
      replace x0 := cell_on hB x0
      replace x1 := cell_on hB x1
      replace x2 := cell_on hB x2
      replace x3 := cell_on hB x3
      replace x4 := cell_on hB x4
      replace x5 := cell_on hB x5
      replace x6 := cell_on hB x6
      replace p0 := cell_on hB p0
      replace p1 := cell_on hB p1
      replace hv := hv.trans (hB.mono hv.size)
      clear hB c2
      have krc0 : w3.cell? ⟨w.heap.size + 1 + 1, 0, none⟩ = some (.int .i64 0) := blk_cell kr 0
      have krf0 : w3.frozen? ⟨w.heap.size + 1 + 1, 0, none⟩ = false := blk_frozen kr 0
      have krc1 : w3.cell? ⟨w.heap.size + 1 + 1, 1, none⟩ = some (.int .i64 0) := blk_cell kr 1
      have krf1 : w3.frozen? ⟨w.heap.size + 1 + 1, 1, none⟩ = false := blk_frozen kr 1
      go_wp2_with fail
      refine bodyPost_ret (res_spant (p := 6) (q := 7) rfl _ _ (w.heap.size + 1 + 1) (0) (0) (.int .i64 6) (by simp) (by simp) (blk_cell (blk_put (blk_put kr 0 _ rfl) 1 _ rfl) 0) (blk_cell (blk_put (blk_put kr 0 _ rfl) 1 _ rfl) 1)) rfl ?_
      exact ⟨rfl, (hv.setCell (by simp; omega) _).setCell (by simp; omega) _⟩
    rw [hs] at c2
    simp only [Bool.true_and]
    cases hl : inB lo 1000000000000000
    · rw [hl] at c3
      simp only [Bool.false_and, Bool.false_eq_true, if_false]
      go_enter Try.func21, Try.ntmps21
      go_wp2_with fail
      obtain ⟨w1, hw1⟩ : ∃ w1, ((w.alloc (.cells #[.int .i64 F, .int .i64 O, .int .i64 J, .int .i64 G, .int .i64 R, .int .i64 D, .int .i64 I] 51)).alloc (.cells #[.int .i64 lo, .int .i64 hi] 43)).alloc (.cells #[.int .i64 0, .int .i64 0] 43) = w1 := ⟨_, rfl⟩
      try rw [hw1]
      have hB : Below w.heap.size w w1 := by rw [← hw1]; exact (((Below.refl _ w).alloc (by first | exact Nat.le_refl _ | (simp; done) | (simp; omega)) _).alloc (by first | exact Nat.le_refl _ | (simp; done) | (simp; omega)) _).alloc (by first | exact Nat.le_refl _ | (simp; done) | (simp; omega)) _
      have kx : w1.heap[w.heap.size]? = some (.cells #[.int .i64 F, .int .i64 O, .int .i64 J, .int .i64 G, .int .i64 R, .int .i64 D, .int .i64 I] 51 (0, 0)) := by rw [← hw1]; exact al_old (al_old (al_new _ _ _ (by first | rfl | (simp; done) | (simp; omega))))
      have x0 : w1.cell? ⟨w.heap.size, 0, none⟩ = some (.int .i64 F) := blk_cell kx 0
      have x1 : w1.cell? ⟨w.heap.size, 1, none⟩ = some (.int .i64 O) := blk_cell kx 1
      have x2 : w1.cell? ⟨w.heap.size, 2, none⟩ = some (.int .i64 J) := blk_cell kx 2
      have x3 : w1.cell? ⟨w.heap.size, 3, none⟩ = some (.int .i64 G) := blk_cell kx 3
      have x4 : w1.cell? ⟨w.heap.size, 4, none⟩ = some (.int .i64 R) := blk_cell kx 4
      have x5 : w1.cell? ⟨w.heap.size, 5, none⟩ = some (.int .i64 D) := blk_cell kx 5
      have x6 : w1.cell? ⟨w.heap.size, 6, none⟩ = some (.int .i64 I) := blk_cell kx 6
      clear kx
      have kp : w1.heap[w.heap.size + 1]? = some (.cells #[.int .i64 lo, .int .i64 hi] 43 (0, 0)) := by rw [← hw1]; exact al_old (al_new _ _ _ (by first | rfl | (simp; done) | (simp; omega)))
      have p0 : w1.cell? ⟨w.heap.size + 1, 0, none⟩ = some (.int .i64 lo) := blk_cell kp 0
      have p1 : w1.cell? ⟨w.heap.size + 1, 1, none⟩ = some (.int .i64 hi) := blk_cell kp 1
      clear kp
      have kr : w1.heap[w.heap.size + 1 + 1]? = some (.cells #[.int .i64 0, .int .i64 0] 43 (0, 0)) := by rw [← hw1]; exact al_new _ _ _ (by first | rfl | (simp; done) | (simp; omega))
      have r0 : w1.cell? ⟨w.heap.size + 1 + 1, 0, none⟩ = some (.int .i64 0) := blk_cell kr 0
      have r1 : w1.cell? ⟨w.heap.size + 1 + 1, 1, none⟩ = some (.int .i64 0) := blk_cell kr 1
      clear r0 r1
      replace hv := hv.trans (hB.mono hv.size)
      clear hB hw1
      have hs1 := World.block_lt_of_cell? _ _ x0
      have hs2 := World.block_lt_of_cell? _ _ p0
      have hs3 := blk_lt kr
      refine (c1 _).mono ?_
      rintro en w2 ⟨rfl, hB⟩
      replace kr := blk_on hB kr
      replace x0 := cell_on hB x0
      replace x1 := cell_on hB x1
      replace x2 := cell_on hB x2
      replace x3 := cell_on hB x3
      replace x4 := cell_on hB x4
      replace x5 := cell_on hB x5
      replace x6 := cell_on hB x6
      replace p0 := cell_on hB p0
      replace p1 := cell_on hB p1
      replace hv := hv.trans (hB.mono hv.size)
      clear hB c1
      go_wp2_with fail
      refine (c2 _).mono ?_
      rintro en w3 ⟨rfl, hB⟩
      replace kr := blk_on hB kr
      replace x0 := cell_on hB x0
      replace x1 := cell_on hB x1
      replace x2 := cell_on hB x2
      replace x3 := cell_on hB x3
      replace x4 := cell_on hB x4
      replace x5 := cell_on hB x5
      replace x6 := cell_on hB x6
      replace p0 := cell_on hB p0
      replace p1 := cell_on hB p1
      replace hv := hv.trans (hB.mono hv.size)
      clear hB c2
      go_wp2_with fail
      refine (c3 _).mono ?_
      rintro en w4 ⟨rfl, hB⟩
      replace kr := blk_on hB kr
      replace x0 := cell_on hB x0
      replace x1 := cell_on hB x1
      replace x2 := cell_on hB x2
      replace x3 := cell_on hB x3
      replace x4 := cell_on hB x4
      replace x5 := cell_on hB x5
      replace x6 := cell_on hB x6
      replace p0 := cell_on hB p0
      replace p1 := cell_on hB p1
      replace hv := hv.trans (hB.mono hv.size)
      clear hB c3
      have krc0 : w4.cell? ⟨w.heap.size + 1 + 1, 0, none⟩ = some (.int .i64 0) := blk_cell kr 0
      have krf0 : w4.frozen? ⟨w.heap.size + 1 + 1, 0, none⟩ = false := blk_frozen kr 0
      have krc1 : w4.cell? ⟨w.heap.size + 1 + 1, 1, none⟩ = some (.int .i64 0) := blk_cell kr 1
      have krf1 : w4.frozen? ⟨w.heap.size + 1 + 1, 1, none⟩ = false := blk_frozen kr 1
      go_wp2_with fail
      refine bodyPost_ret (res_spant (p := 6) (q := 7) rfl _ _ (w.heap.size + 1 + 1) (0) (0) (.int .i64 6) (by simp) (by simp) (blk_cell (blk_put (blk_put kr 0 _ rfl) 1 _ rfl) 0) (blk_cell (blk_put (blk_put kr 0 _ rfl) 1 _ rfl) 1)) rfl ?_
      exact ⟨rfl, (hv.setCell (by simp; omega) _).setCell (by simp; omega) _⟩
    rw [hl] at c3
    simp only [Bool.true_and]
    cases hh : inB hi 1000000000000000
    · rw [hh] at c4
      simp only [Bool.false_eq_true, if_false]
      go_enter Try.func21, Try.ntmps21
      go_wp2_with fail
      obtain ⟨w1, hw1⟩ : ∃ w1, ((w.alloc (.cells #[.int .i64 F, .int .i64 O, .int .i64 J, .int .i64 G, .int .i64 R, .int .i64 D, .int .i64 I] 51)).alloc (.cells #[.int .i64 lo, .int .i64 hi] 43)).alloc (.cells #[.int .i64 0, .int .i64 0] 43) = w1 := ⟨_, rfl⟩
      try rw [hw1]
      have hB : Below w.heap.size w w1 := by rw [← hw1]; exact (((Below.refl _ w).alloc (by first | exact Nat.le_refl _ | (simp; done) | (simp; omega)) _).alloc (by first | exact Nat.le_refl _ | (simp; done) | (simp; omega)) _).alloc (by first | exact Nat.le_refl _ | (simp; done) | (simp; omega)) _
      have kx : w1.heap[w.heap.size]? = some (.cells #[.int .i64 F, .int .i64 O, .int .i64 J, .int .i64 G, .int .i64 R, .int .i64 D, .int .i64 I] 51 (0, 0)) := by rw [← hw1]; exact al_old (al_old (al_new _ _ _ (by first | rfl | (simp; done) | (simp; omega))))
      have x0 : w1.cell? ⟨w.heap.size, 0, none⟩ = some (.int .i64 F) := blk_cell kx 0
      have x1 : w1.cell? ⟨w.heap.size, 1, none⟩ = some (.int .i64 O) := blk_cell kx 1
      have x2 : w1.cell? ⟨w.heap.size, 2, none⟩ = some (.int .i64 J) := blk_cell kx 2
      have x3 : w1.cell? ⟨w.heap.size, 3, none⟩ = some (.int .i64 G) := blk_cell kx 3
      have x4 : w1.cell? ⟨w.heap.size, 4, none⟩ = some (.int .i64 R) := blk_cell kx 4
      have x5 : w1.cell? ⟨w.heap.size, 5, none⟩ = some (.int .i64 D) := blk_cell kx 5
      have x6 : w1.cell? ⟨w.heap.size, 6, none⟩ = some (.int .i64 I) := blk_cell kx 6
      clear kx
      have kp : w1.heap[w.heap.size + 1]? = some (.cells #[.int .i64 lo, .int .i64 hi] 43 (0, 0)) := by rw [← hw1]; exact al_old (al_new _ _ _ (by first | rfl | (simp; done) | (simp; omega)))
      have p0 : w1.cell? ⟨w.heap.size + 1, 0, none⟩ = some (.int .i64 lo) := blk_cell kp 0
      have p1 : w1.cell? ⟨w.heap.size + 1, 1, none⟩ = some (.int .i64 hi) := blk_cell kp 1
      clear kp
      have kr : w1.heap[w.heap.size + 1 + 1]? = some (.cells #[.int .i64 0, .int .i64 0] 43 (0, 0)) := by rw [← hw1]; exact al_new _ _ _ (by first | rfl | (simp; done) | (simp; omega))
      have r0 : w1.cell? ⟨w.heap.size + 1 + 1, 0, none⟩ = some (.int .i64 0) := blk_cell kr 0
      have r1 : w1.cell? ⟨w.heap.size + 1 + 1, 1, none⟩ = some (.int .i64 0) := blk_cell kr 1
      clear r0 r1
      replace hv := hv.trans (hB.mono hv.size)
      clear hB hw1
      have hs1 := World.block_lt_of_cell? _ _ x0
      have hs2 := World.block_lt_of_cell? _ _ p0
      have hs3 := blk_lt kr
      refine (c1 _).mono ?_
      rintro en w2 ⟨rfl, hB⟩
      replace kr := blk_on hB kr
      replace x0 := cell_on hB x0
      replace x1 := cell_on hB x1
      replace x2 := cell_on hB x2
      replace x3 := cell_on hB x3
      replace x4 := cell_on hB x4
      replace x5 := cell_on hB x5
      replace x6 := cell_on hB x6
      replace p0 := cell_on hB p0
      replace p1 := cell_on hB p1
      replace hv := hv.trans (hB.mono hv.size)
      clear hB c1
      go_wp2_with fail
      refine (c2 _).mono ?_
      rintro en w3 ⟨rfl, hB⟩
      replace kr := blk_on hB kr
      replace x0 := cell_on hB x0
      replace x1 := cell_on hB x1
      replace x2 := cell_on hB x2
      replace x3 := cell_on hB x3
      replace x4 := cell_on hB x4
      replace x5 := cell_on hB x5
      replace x6 := cell_on hB x6
      replace p0 := cell_on hB p0
      replace p1 := cell_on hB p1
      replace hv := hv.trans (hB.mono hv.size)
      clear hB c2
      go_wp2_with fail
      refine (c3 _).mono ?_
      rintro en w4 ⟨rfl, hB⟩
      replace kr := blk_on hB kr
      replace x0 := cell_on hB x0
      replace x1 := cell_on hB x1
      replace x2 := cell_on hB x2
      replace x3 := cell_on hB x3
      replace x4 := cell_on hB x4
      replace x5 := cell_on hB x5
      replace x6 := cell_on hB x6
      replace p0 := cell_on hB p0
      replace p1 := cell_on hB p1
      replace hv := hv.trans (hB.mono hv.size)
      clear hB c3
      go_wp2_with fail
      refine (c4 _).mono ?_
      rintro en w5 ⟨rfl, hB⟩
      replace kr := blk_on hB kr
      replace x0 := cell_on hB x0
      replace x1 := cell_on hB x1
      replace x2 := cell_on hB x2
      replace x3 := cell_on hB x3
      replace x4 := cell_on hB x4
      replace x5 := cell_on hB x5
      replace x6 := cell_on hB x6
      replace p0 := cell_on hB p0
      replace p1 := cell_on hB p1
      replace hv := hv.trans (hB.mono hv.size)
      clear hB c4
      have krc0 : w5.cell? ⟨w.heap.size + 1 + 1, 0, none⟩ = some (.int .i64 0) := blk_cell kr 0
      have krf0 : w5.frozen? ⟨w.heap.size + 1 + 1, 0, none⟩ = false := blk_frozen kr 0
      have krc1 : w5.cell? ⟨w.heap.size + 1 + 1, 1, none⟩ = some (.int .i64 0) := blk_cell kr 1
      have krf1 : w5.frozen? ⟨w.heap.size + 1 + 1, 1, none⟩ = false := blk_frozen kr 1
      go_wp2_with fail
      refine bodyPost_ret (res_spant (p := 6) (q := 7) rfl _ _ (w.heap.size + 1 + 1) (0) (0) (.int .i64 6) (by simp) (by simp) (blk_cell (blk_put (blk_put kr 0 _ rfl) 1 _ rfl) 0) (blk_cell (blk_put (blk_put kr 0 _ rfl) 1 _ rfl) 1)) rfl ?_
      exact ⟨rfl, (hv.setCell (by simp; omega) _).setCell (by simp; omega) _⟩
    rw [hh] at c4
    simp only [if_true]
    have hl2 : -1000000000000000 ≤ lo ∧ lo ≤ 1000000000000000 := by unfold inB at hl; simp at hl; omega
    have hh2 : -1000000000000000 ≤ hi ∧ hi ≤ 1000000000000000 := by unfold inB at hh; simp at hh; omega
    have hm2 : -1000000000000000 ≤ m ∧ m ≤ 1000000000000000 := by have := HK.r; unfold shownF at hs; simp at hs; omega
    by_cases hle : lo ≤ hi
    · rw [if_pos hle]
      have c5 := fun w => resolve_calls F O J G R D I m lo hi w HK hm2 hl2 hh2
      obtain ⟨a, b, e, he⟩ := resV_is (turnsL F O R (J + G / 2) m lo hi (firstF F O R (J + G / 2) m lo) (2 * F + 5).toNat)
      rw [he] at c5 ⊢
      clear he hs hl hh HK hk
      go_enter Try.func21, Try.ntmps21
      go_wp2_with fail
      obtain ⟨w1, hw1⟩ : ∃ w1, ((w.alloc (.cells #[.int .i64 F, .int .i64 O, .int .i64 J, .int .i64 G, .int .i64 R, .int .i64 D, .int .i64 I] 51)).alloc (.cells #[.int .i64 lo, .int .i64 hi] 43)).alloc (.cells #[.int .i64 0, .int .i64 0] 43) = w1 := ⟨_, rfl⟩
      try rw [hw1]
      have hB : Below w.heap.size w w1 := by rw [← hw1]; exact (((Below.refl _ w).alloc (by first | exact Nat.le_refl _ | (simp; done) | (simp; omega)) _).alloc (by first | exact Nat.le_refl _ | (simp; done) | (simp; omega)) _).alloc (by first | exact Nat.le_refl _ | (simp; done) | (simp; omega)) _
      have kx : w1.heap[w.heap.size]? = some (.cells #[.int .i64 F, .int .i64 O, .int .i64 J, .int .i64 G, .int .i64 R, .int .i64 D, .int .i64 I] 51 (0, 0)) := by rw [← hw1]; exact al_old (al_old (al_new _ _ _ (by first | rfl | (simp; done) | (simp; omega))))
      have x0 : w1.cell? ⟨w.heap.size, 0, none⟩ = some (.int .i64 F) := blk_cell kx 0
      have x1 : w1.cell? ⟨w.heap.size, 1, none⟩ = some (.int .i64 O) := blk_cell kx 1
      have x2 : w1.cell? ⟨w.heap.size, 2, none⟩ = some (.int .i64 J) := blk_cell kx 2
      have x3 : w1.cell? ⟨w.heap.size, 3, none⟩ = some (.int .i64 G) := blk_cell kx 3
      have x4 : w1.cell? ⟨w.heap.size, 4, none⟩ = some (.int .i64 R) := blk_cell kx 4
      have x5 : w1.cell? ⟨w.heap.size, 5, none⟩ = some (.int .i64 D) := blk_cell kx 5
      have x6 : w1.cell? ⟨w.heap.size, 6, none⟩ = some (.int .i64 I) := blk_cell kx 6
      clear kx
      have kp : w1.heap[w.heap.size + 1]? = some (.cells #[.int .i64 lo, .int .i64 hi] 43 (0, 0)) := by rw [← hw1]; exact al_old (al_new _ _ _ (by first | rfl | (simp; done) | (simp; omega)))
      have p0 : w1.cell? ⟨w.heap.size + 1, 0, none⟩ = some (.int .i64 lo) := blk_cell kp 0
      have p1 : w1.cell? ⟨w.heap.size + 1, 1, none⟩ = some (.int .i64 hi) := blk_cell kp 1
      clear kp
      have kr : w1.heap[w.heap.size + 1 + 1]? = some (.cells #[.int .i64 0, .int .i64 0] 43 (0, 0)) := by rw [← hw1]; exact al_new _ _ _ (by first | rfl | (simp; done) | (simp; omega))
      have r0 : w1.cell? ⟨w.heap.size + 1 + 1, 0, none⟩ = some (.int .i64 0) := blk_cell kr 0
      have r1 : w1.cell? ⟨w.heap.size + 1 + 1, 1, none⟩ = some (.int .i64 0) := blk_cell kr 1
      clear r0 r1
      replace hv := hv.trans (hB.mono hv.size)
      clear hB hw1
      have hs1 := World.block_lt_of_cell? _ _ x0
      have hs2 := World.block_lt_of_cell? _ _ p0
      have hs3 := blk_lt kr
      refine (c1 _).mono ?_
      rintro en w2 ⟨rfl, hB⟩
      replace kr := blk_on hB kr
      replace x0 := cell_on hB x0
      replace x1 := cell_on hB x1
      replace x2 := cell_on hB x2
      replace x3 := cell_on hB x3
      replace x4 := cell_on hB x4
      replace x5 := cell_on hB x5
      replace x6 := cell_on hB x6
      replace p0 := cell_on hB p0
      replace p1 := cell_on hB p1
      replace hv := hv.trans (hB.mono hv.size)
      clear hB c1
      go_wp2_with fail
      refine (c2 _).mono ?_
      rintro en w3 ⟨rfl, hB⟩
      replace kr := blk_on hB kr
      replace x0 := cell_on hB x0
      replace x1 := cell_on hB x1
      replace x2 := cell_on hB x2
      replace x3 := cell_on hB x3
      replace x4 := cell_on hB x4
      replace x5 := cell_on hB x5
      replace x6 := cell_on hB x6
      replace p0 := cell_on hB p0
      replace p1 := cell_on hB p1
      replace hv := hv.trans (hB.mono hv.size)
      clear hB c2
      go_wp2_with fail
      refine (c3 _).mono ?_
      rintro en w4 ⟨rfl, hB⟩
      replace kr := blk_on hB kr
      replace x0 := cell_on hB x0
      replace x1 := cell_on hB x1
      replace x2 := cell_on hB x2
      replace x3 := cell_on hB x3
      replace x4 := cell_on hB x4
      replace x5 := cell_on hB x5
      replace x6 := cell_on hB x6
      replace p0 := cell_on hB p0
      replace p1 := cell_on hB p1
      replace hv := hv.trans (hB.mono hv.size)
      clear hB c3
      go_wp2_with fail
      refine (c4 _).mono ?_
      rintro en w5 ⟨rfl, hB⟩
      replace kr := blk_on hB kr
      replace x0 := cell_on hB x0
      replace x1 := cell_on hB x1
      replace x2 := cell_on hB x2
      replace x3 := cell_on hB x3
      replace x4 := cell_on hB x4
      replace x5 := cell_on hB x5
      replace x6 := cell_on hB x6
      replace p0 := cell_on hB p0
      replace p1 := cell_on hB p1
      replace hv := hv.trans (hB.mono hv.size)
      clear hB c4
      go_wp2_with fail
      refine (c5 _).mono ?_
      rintro en w6 ⟨rfl, hB⟩
      replace kr := blk_on hB kr
      replace x0 := cell_on hB x0
      replace x1 := cell_on hB x1
      replace x2 := cell_on hB x2
      replace x3 := cell_on hB x3
      replace x4 := cell_on hB x4
      replace x5 := cell_on hB x5
      replace x6 := cell_on hB x6
      replace p0 := cell_on hB p0
      replace p1 := cell_on hB p1
      replace hv := hv.trans (hB.mono hv.size)
      clear hB c5
      have krc0 : w6.cell? ⟨w.heap.size + 1 + 1, 0, none⟩ = some (.int .i64 0) := blk_cell kr 0
      have krf0 : w6.frozen? ⟨w.heap.size + 1 + 1, 0, none⟩ = false := blk_frozen kr 0
      have krc1 : w6.cell? ⟨w.heap.size + 1 + 1, 1, none⟩ = some (.int .i64 0) := blk_cell kr 1
      have krf1 : w6.frozen? ⟨w.heap.size + 1 + 1, 1, none⟩ = false := blk_frozen kr 1
      go_wp2_with fail
      refine bodyPost_ret (res_spant (p := 6) (q := 7) rfl _ _ (w.heap.size + 1 + 1) (a) (b) (.int .i64 e) (by simp) (by simp) (blk_cell (blk_put (blk_put kr 0 _ rfl) 1 _ rfl) 0) (blk_cell (blk_put (blk_put kr 0 _ rfl) 1 _ rfl) 1)) rfl ?_
      exact ⟨rfl, (hv.setCell (by simp; omega) _).setCell (by simp; omega) _⟩
    · rw [if_neg hle]
      have hgt : hi < lo := by omega
      go_enter Try.func21, Try.ntmps21
      go_wp2_with fail
      obtain ⟨w1, hw1⟩ : ∃ w1, ((w.alloc (.cells #[.int .i64 F, .int .i64 O, .int .i64 J, .int .i64 G, .int .i64 R, .int .i64 D, .int .i64 I] 51)).alloc (.cells #[.int .i64 lo, .int .i64 hi] 43)).alloc (.cells #[.int .i64 0, .int .i64 0] 43) = w1 := ⟨_, rfl⟩
      try rw [hw1]
      have hB : Below w.heap.size w w1 := by rw [← hw1]; exact (((Below.refl _ w).alloc (by first | exact Nat.le_refl _ | (simp; done) | (simp; omega)) _).alloc (by first | exact Nat.le_refl _ | (simp; done) | (simp; omega)) _).alloc (by first | exact Nat.le_refl _ | (simp; done) | (simp; omega)) _
      have kx : w1.heap[w.heap.size]? = some (.cells #[.int .i64 F, .int .i64 O, .int .i64 J, .int .i64 G, .int .i64 R, .int .i64 D, .int .i64 I] 51 (0, 0)) := by rw [← hw1]; exact al_old (al_old (al_new _ _ _ (by first | rfl | (simp; done) | (simp; omega))))
      have x0 : w1.cell? ⟨w.heap.size, 0, none⟩ = some (.int .i64 F) := blk_cell kx 0
      have x1 : w1.cell? ⟨w.heap.size, 1, none⟩ = some (.int .i64 O) := blk_cell kx 1
      have x2 : w1.cell? ⟨w.heap.size, 2, none⟩ = some (.int .i64 J) := blk_cell kx 2
      have x3 : w1.cell? ⟨w.heap.size, 3, none⟩ = some (.int .i64 G) := blk_cell kx 3
      have x4 : w1.cell? ⟨w.heap.size, 4, none⟩ = some (.int .i64 R) := blk_cell kx 4
      have x5 : w1.cell? ⟨w.heap.size, 5, none⟩ = some (.int .i64 D) := blk_cell kx 5
      have x6 : w1.cell? ⟨w.heap.size, 6, none⟩ = some (.int .i64 I) := blk_cell kx 6
      clear kx
      have kp : w1.heap[w.heap.size + 1]? = some (.cells #[.int .i64 lo, .int .i64 hi] 43 (0, 0)) := by rw [← hw1]; exact al_old (al_new _ _ _ (by first | rfl | (simp; done) | (simp; omega)))
      have p0 : w1.cell? ⟨w.heap.size + 1, 0, none⟩ = some (.int .i64 lo) := blk_cell kp 0
      have p1 : w1.cell? ⟨w.heap.size + 1, 1, none⟩ = some (.int .i64 hi) := blk_cell kp 1
      clear kp
      have kr : w1.heap[w.heap.size + 1 + 1]? = some (.cells #[.int .i64 0, .int .i64 0] 43 (0, 0)) := by rw [← hw1]; exact al_new _ _ _ (by first | rfl | (simp; done) | (simp; omega))
      have r0 : w1.cell? ⟨w.heap.size + 1 + 1, 0, none⟩ = some (.int .i64 0) := blk_cell kr 0
      have r1 : w1.cell? ⟨w.heap.size + 1 + 1, 1, none⟩ = some (.int .i64 0) := blk_cell kr 1
      clear r0 r1
      replace hv := hv.trans (hB.mono hv.size)
      clear hB hw1
      have hs1 := World.block_lt_of_cell? _ _ x0
      have hs2 := World.block_lt_of_cell? _ _ p0
      have hs3 := blk_lt kr
      refine (c1 _).mono ?_
      rintro en w2 ⟨rfl, hB⟩
      replace kr := blk_on hB kr
      replace x0 := cell_on hB x0
      replace x1 := cell_on hB x1
      replace x2 := cell_on hB x2
      replace x3 := cell_on hB x3
      replace x4 := cell_on hB x4
      replace x5 := cell_on hB x5
      replace x6 := cell_on hB x6
      replace p0 := cell_on hB p0
      replace p1 := cell_on hB p1
      replace hv := hv.trans (hB.mono hv.size)
      clear hB c1
      go_wp2_with fail
      refine (c2 _).mono ?_
      rintro en w3 ⟨rfl, hB⟩
      replace kr := blk_on hB kr
      replace x0 := cell_on hB x0
      replace x1 := cell_on hB x1
      replace x2 := cell_on hB x2
      replace x3 := cell_on hB x3
      replace x4 := cell_on hB x4
      replace x5 := cell_on hB x5
      replace x6 := cell_on hB x6
      replace p0 := cell_on hB p0
      replace p1 := cell_on hB p1
      replace hv := hv.trans (hB.mono hv.size)
      clear hB c2
      go_wp2_with fail
      refine (c3 _).mono ?_
      rintro en w4 ⟨rfl, hB⟩
      replace kr := blk_on hB kr
      replace x0 := cell_on hB x0
      replace x1 := cell_on hB x1
      replace x2 := cell_on hB x2
      replace x3 := cell_on hB x3
      replace x4 := cell_on hB x4
      replace x5 := cell_on hB x5
      replace x6 := cell_on hB x6
      replace p0 := cell_on hB p0
      replace p1 := cell_on hB p1
      replace hv := hv.trans (hB.mono hv.size)
      clear hB c3
      go_wp2_with fail
      refine (c4 _).mono ?_
      rintro en w5 ⟨rfl, hB⟩
      replace kr := blk_on hB kr
      replace x0 := cell_on hB x0
      replace x1 := cell_on hB x1
      replace x2 := cell_on hB x2
      replace x3 := cell_on hB x3
      replace x4 := cell_on hB x4
      replace x5 := cell_on hB x5
      replace x6 := cell_on hB x6
      replace p0 := cell_on hB p0
      replace p1 := cell_on hB p1
      replace hv := hv.trans (hB.mono hv.size)
      clear hB c4
      have krc0 : w5.cell? ⟨w.heap.size + 1 + 1, 0, none⟩ = some (.int .i64 0) := blk_cell kr 0
      have krf0 : w5.frozen? ⟨w.heap.size + 1 + 1, 0, none⟩ = false := blk_frozen kr 0
      have krc1 : w5.cell? ⟨w.heap.size + 1 + 1, 1, none⟩ = some (.int .i64 0) := blk_cell kr 1
      have krf1 : w5.frozen? ⟨w.heap.size + 1 + 1, 1, none⟩ = false := blk_frozen kr 1
      go_wp2_with fail
      refine bodyPost_ret (res_spant (p := 6) (q := 7) rfl _ _ (w.heap.size + 1 + 1) (0) (0) (.int .i64 1) (by simp) (by simp) (blk_cell (blk_put (blk_put kr 0 _ rfl) 1 _ rfl) 0) (blk_cell (blk_put (blk_put kr 0 _ rfl) 1 _ rfl) 1)) rfl ?_
      exact ⟨rfl, (hv.setCell (by simp; omega) _).setCell (by simp; omega) _⟩
end Go.Proofs.Ytjgnadighdbjlaa.C
