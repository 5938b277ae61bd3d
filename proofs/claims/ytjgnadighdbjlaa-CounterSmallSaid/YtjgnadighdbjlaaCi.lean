/- Contracts of the reference's Show and Wrap, by hand. -/
import Derived.OwnWalk
import Derived.Deep.RegionHeld3
import Derived.Test.YtjgnadighdbjlaaCh
namespace Go.Proofs.Ytjgnadighdbjlaa.C
open Go.RowKit Go.Shelf Go.Maps Go.Proofs.YtjgnadighdbjlaaW.PrintWords Go.Proofs.YtjgnadighdbjlaaW.PrintLast Go.Proofs.YtjgnadighdbjlaaW.PrintMore
set_option linter.unusedVariables false
set_option linter.unusedSimpArgs false
theorem round_eq {G r : Int} (hG : 1 ≤ G) : (2 * r + G) / (2 * G) * G = if G ≤ 2 * (r % G) then r - r % G + G else r - r % G := by
  have h1 := Int.mul_ediv_add_emod r G
  have h2 := Int.emod_nonneg r (b := G) (by omega)
  have h3 := Int.emod_lt_of_pos r (b := G) (by omega)
  split
  · have : (2 * r + G) / (2 * G) = r / G + 1 ∧ (2 * r + G) % (2 * G) = 2 * (r % G) - G := by
      refine (Int.ediv_emod_unique (by omega)).2 ⟨?_, by omega, by omega⟩
      rw [Int.mul_add, Int.mul_assoc]; omega
    rw [this.1, Int.add_mul, Int.mul_comm (r / G)]; omega
  · have : (2 * r + G) / (2 * G) = r / G ∧ (2 * r + G) % (2 * G) = 2 * (r % G) + G := by
      refine (Int.ediv_emod_unique (by omega)).2 ⟨?_, by omega, by omega⟩
      rw [Int.mul_assoc]; omega
    rw [this.1, Int.mul_comm (r / G)]; omega
set_option maxHeartbeats 1000000 in
theorem rShow_calls (F O J G R D I seed s d : Int) (w : World) :
    Calls Try.prog 26 #[.agg #[.int .i64 F, .int .i64 O, .int .i64 J, .int .i64 G, .int .i64 R, .int .i64 D, .int .i64 I], .int .u64 seed, .int .i64 s, .int .i64 d] w fun e w' => e = .returned (.tuple #[.int .i64 (showR F O J G R D I seed s d).1, .int .i64 (showR F O J G R D I seed s d).2]) ∧ Below w.heap.size w w' := by
  have hv := Below.refl w.heap.size w
  have c1 := fun w => rCheck_calls F O J G R D I w
  unfold showR
  cases hk : okC F O J G R D I
  · rw [hk, if_neg (by simp)] at c1
    simp only [Bool.false_eq_true, if_false]
    go_enter Try.func26, Try.ntmps26
    go_wp2_with fail
    obtain ⟨w1, hw1⟩ : ∃ w1, w.alloc (.cells #[.int .i64 F, .int .i64 O, .int .i64 J, .int .i64 G, .int .i64 R, .int .i64 D, .int .i64 I] 49) = w1 := ⟨_, rfl⟩
    try rw [hw1]
    have hB : Below w.heap.size w w1 := by rw [← hw1]; exact (Below.refl _ w).alloc (by first | exact Nat.le_refl _ | (simp; done) | (simp; omega)) _
    have kx : w1.heap[w.heap.size]? = some (.cells #[.int .i64 F, .int .i64 O, .int .i64 J, .int .i64 G, .int .i64 R, .int .i64 D, .int .i64 I] 49 (0, 0)) := by rw [← hw1]; exact al_new _ _ _ (by first | rfl | (simp; done) | (simp; omega))
    have x0 : w1.cell? ⟨w.heap.size, 0, none⟩ = some (.int .i64 F) := blk_cell kx 0
    have x1 : w1.cell? ⟨w.heap.size, 1, none⟩ = some (.int .i64 O) := blk_cell kx 1
    have x2 : w1.cell? ⟨w.heap.size, 2, none⟩ = some (.int .i64 J) := blk_cell kx 2
    have x3 : w1.cell? ⟨w.heap.size, 3, none⟩ = some (.int .i64 G) := blk_cell kx 3
    have x4 : w1.cell? ⟨w.heap.size, 4, none⟩ = some (.int .i64 R) := blk_cell kx 4
    have x5 : w1.cell? ⟨w.heap.size, 5, none⟩ = some (.int .i64 D) := blk_cell kx 5
    have x6 : w1.cell? ⟨w.heap.size, 6, none⟩ = some (.int .i64 I) := blk_cell kx 6
    clear kx
    replace hv := hv.trans (hB.mono hv.size)
    clear hB hw1
    have hs1 := World.block_lt_of_cell? _ _ x0
    refine (c1 _).mono ?_
    rintro en w2 ⟨rfl, hB⟩
    replace x0 := cell_on hB x0
    replace x1 := cell_on hB x1
    replace x2 := cell_on hB x2
    replace x3 := cell_on hB x3
    replace x4 := cell_on hB x4
    replace x5 := cell_on hB x5
    replace x6 := cell_on hB x6
    replace hv := hv.trans (hB.mono hv.size)
    clear hB c1
    go_wp2_with fail
    go_ret2
    exact ⟨rfl, hv⟩
  · rw [hk, if_pos rfl] at c1
    simp only [if_true]
    have HK := CtrOk.of hk
    have c2 := fun w => rready_calls F O J G R D I s w HK.d
    cases hr : readyF D s
    · rw [hr] at c2
      simp only [Bool.false_eq_true, if_false]
      go_enter Try.func26, Try.ntmps26
      go_wp2_with fail
      obtain ⟨w1, hw1⟩ : ∃ w1, w.alloc (.cells #[.int .i64 F, .int .i64 O, .int .i64 J, .int .i64 G, .int .i64 R, .int .i64 D, .int .i64 I] 49) = w1 := ⟨_, rfl⟩
      try rw [hw1]
      have hB : Below w.heap.size w w1 := by rw [← hw1]; exact (Below.refl _ w).alloc (by first | exact Nat.le_refl _ | (simp; done) | (simp; omega)) _
      have kx : w1.heap[w.heap.size]? = some (.cells #[.int .i64 F, .int .i64 O, .int .i64 J, .int .i64 G, .int .i64 R, .int .i64 D, .int .i64 I] 49 (0, 0)) := by rw [← hw1]; exact al_new _ _ _ (by first | rfl | (simp; done) | (simp; omega))
      have x0 : w1.cell? ⟨w.heap.size, 0, none⟩ = some (.int .i64 F) := blk_cell kx 0
      have x1 : w1.cell? ⟨w.heap.size, 1, none⟩ = some (.int .i64 O) := blk_cell kx 1
      have x2 : w1.cell? ⟨w.heap.size, 2, none⟩ = some (.int .i64 J) := blk_cell kx 2
      have x3 : w1.cell? ⟨w.heap.size, 3, none⟩ = some (.int .i64 G) := blk_cell kx 3
      have x4 : w1.cell? ⟨w.heap.size, 4, none⟩ = some (.int .i64 R) := blk_cell kx 4
      have x5 : w1.cell? ⟨w.heap.size, 5, none⟩ = some (.int .i64 D) := blk_cell kx 5
      have x6 : w1.cell? ⟨w.heap.size, 6, none⟩ = some (.int .i64 I) := blk_cell kx 6
      clear kx
      replace hv := hv.trans (hB.mono hv.size)
      clear hB hw1
      have hs1 := World.block_lt_of_cell? _ _ x0
      refine (c1 _).mono ?_
      rintro en w2 ⟨rfl, hB⟩
      replace x0 := cell_on hB x0
      replace x1 := cell_on hB x1
      replace x2 := cell_on hB x2
      replace x3 := cell_on hB x3
      replace x4 := cell_on hB x4
      replace x5 := cell_on hB x5
      replace x6 := cell_on hB x6
      replace hv := hv.trans (hB.mono hv.size)
      clear hB c1
      go_wp2_with fail
      refine (c2 _).mono ?_
      rintro en w3 ⟨rfl, hB⟩
      replace x0 := cell_on hB x0
      replace x1 := cell_on hB x1
      replace x2 := cell_on hB x2
      replace x3 := cell_on hB x3
      replace x4 := cell_on hB x4
      replace x5 := cell_on hB x5
      replace x6 := cell_on hB x6
      replace hv := hv.trans (hB.mono hv.size)
      clear hB c2
      go_wp2_with fail
      go_ret2
      exact ⟨rfl, hv⟩
    · rw [hr] at c2
      simp only [if_true]
      have hs : 0 ≤ s ∧ s ≤ 1000000 := by unfold readyF at hr; simp at hr; omega
      cases hd1 : decide (d < -1000000000000000)
      · cases hd2 : decide (1000000000000000 < d)
        · have hd3 := of_decide_eq_false hd1
          have hd4 := of_decide_eq_false hd2
          have hin : inB d 1000000000000000 = true := by unfold inB; simp; omega
          rw [hin]
          simp only [if_true]
          obtain ⟨hfd, hraw⟩ := raw_bound (seed := seed) (s := s) HK (d := d) ⟨by omega, by omega⟩
          have hf := HK.f; have ho := HK.o; have hj := HK.j; have hg := HK.g; have hrr0 := HK.r; have hi := HK.i
          have hdr := drawF_range seed 3 I s J hj.1
          have c4 := fun w => rdraw_calls seed 3 I s J w (by omega) (by omega) (by omega) (by omega)
          unfold showF
          rw [round_eq hg.1]
          unfold rawF at hraw ⊢
          generalize drawF seed 3 I s J = j at *
          obtain ⟨r, hrr⟩ : ∃ r, F * d + O + j = r := ⟨_, rfl⟩
          rw [hrr] at hraw ⊢
          have c5 := fun w => modulo_calls r G w (by omega) (by omega)
          have hm0 := Int.emod_nonneg r (b := G) (by omega)
          have hm1 := Int.emod_lt_of_pos r (b := G) (by omega)
          clear HK hk hr hin
          generalize r % G = m at *
          have hsub : r - (r - m) = m := by omega
          cases hc : decide (G ≤ 2 * m)
          · rw [if_neg (by simpa using hc)]
            have c6 := fun w => rwrap_calls F O J G R D I (r - m) w hrr0 (by omega)
            go_enter Try.func26, Try.ntmps26
            go_wp2_with fail
            obtain ⟨w1, hw1⟩ : ∃ w1, w.alloc (.cells #[.int .i64 F, .int .i64 O, .int .i64 J, .int .i64 G, .int .i64 R, .int .i64 D, .int .i64 I] 49) = w1 := ⟨_, rfl⟩
            try rw [hw1]
            have hB : Below w.heap.size w w1 := by rw [← hw1]; exact (Below.refl _ w).alloc (by first | exact Nat.le_refl _ | (simp; done) | (simp; omega)) _
            have kx : w1.heap[w.heap.size]? = some (.cells #[.int .i64 F, .int .i64 O, .int .i64 J, .int .i64 G, .int .i64 R, .int .i64 D, .int .i64 I] 49 (0, 0)) := by rw [← hw1]; exact al_new _ _ _ (by first | rfl | (simp; done) | (simp; omega))
            have x0 : w1.cell? ⟨w.heap.size, 0, none⟩ = some (.int .i64 F) := blk_cell kx 0
            have x1 : w1.cell? ⟨w.heap.size, 1, none⟩ = some (.int .i64 O) := blk_cell kx 1
            have x2 : w1.cell? ⟨w.heap.size, 2, none⟩ = some (.int .i64 J) := blk_cell kx 2
            have x3 : w1.cell? ⟨w.heap.size, 3, none⟩ = some (.int .i64 G) := blk_cell kx 3
            have x4 : w1.cell? ⟨w.heap.size, 4, none⟩ = some (.int .i64 R) := blk_cell kx 4
            have x5 : w1.cell? ⟨w.heap.size, 5, none⟩ = some (.int .i64 D) := blk_cell kx 5
            have x6 : w1.cell? ⟨w.heap.size, 6, none⟩ = some (.int .i64 I) := blk_cell kx 6
            clear kx
            replace hv := hv.trans (hB.mono hv.size)
            clear hB hw1
            have hs1 := World.block_lt_of_cell? _ _ x0
            refine (c1 _).mono ?_
            rintro en w2 ⟨rfl, hB⟩
            replace x0 := cell_on hB x0
            replace x1 := cell_on hB x1
            replace x2 := cell_on hB x2
            replace x3 := cell_on hB x3
            replace x4 := cell_on hB x4
            replace x5 := cell_on hB x5
            replace x6 := cell_on hB x6
            replace hv := hv.trans (hB.mono hv.size)
            clear hB c1
            go_wp2_with fail
            refine (c2 _).mono ?_
            rintro en w3 ⟨rfl, hB⟩
            replace x0 := cell_on hB x0
            replace x1 := cell_on hB x1
            replace x2 := cell_on hB x2
            replace x3 := cell_on hB x3
            replace x4 := cell_on hB x4
            replace x5 := cell_on hB x5
            replace x6 := cell_on hB x6
            replace hv := hv.trans (hB.mono hv.size)
            clear hB c2
            go_wp2_with fail
            refine (c4 _).mono ?_
            rintro en w4 ⟨rfl, hB⟩
            replace x0 := cell_on hB x0
            replace x1 := cell_on hB x1
            replace x2 := cell_on hB x2
            replace x3 := cell_on hB x3
            replace x4 := cell_on hB x4
            replace x5 := cell_on hB x5
            replace x6 := cell_on hB x6
            replace hv := hv.trans (hB.mono hv.size)
            clear hB c4
            go_wp2_with fail
            try simp only [hrr]
            refine (c5 _).mono ?_
            rintro en w5 ⟨rfl, hB⟩
            replace x0 := cell_on hB x0
            replace x1 := cell_on hB x1
            replace x2 := cell_on hB x2
            replace x3 := cell_on hB x3
            replace x4 := cell_on hB x4
            replace x5 := cell_on hB x5
            replace x6 := cell_on hB x6
            replace hv := hv.trans (hB.mono hv.size)
            clear hB c5
            go_wp2_with fail
            refine (c6 _).mono ?_
            rintro en w6 ⟨rfl, hB⟩
            replace x0 := cell_on hB x0
            replace x1 := cell_on hB x1
            replace x2 := cell_on hB x2
            replace x3 := cell_on hB x3
            replace x4 := cell_on hB x4
            replace x5 := cell_on hB x5
            replace x6 := cell_on hB x6
            replace hv := hv.trans (hB.mono hv.size)
            clear hB c6
            go_wp2_with fail
            go_ret2
            exact ⟨rfl, hv⟩
          · rw [if_pos (by simpa using hc)]
            have c6 := fun w => rwrap_calls F O J G R D I (r - m + G) w hrr0 (by omega)
            go_enter Try.func26, Try.ntmps26
            go_wp2_with fail
            obtain ⟨w1, hw1⟩ : ∃ w1, w.alloc (.cells #[.int .i64 F, .int .i64 O, .int .i64 J, .int .i64 G, .int .i64 R, .int .i64 D, .int .i64 I] 49) = w1 := ⟨_, rfl⟩
            try rw [hw1]
            have hB : Below w.heap.size w w1 := by rw [← hw1]; exact (Below.refl _ w).alloc (by first | exact Nat.le_refl _ | (simp; done) | (simp; omega)) _
            have kx : w1.heap[w.heap.size]? = some (.cells #[.int .i64 F, .int .i64 O, .int .i64 J, .int .i64 G, .int .i64 R, .int .i64 D, .int .i64 I] 49 (0, 0)) := by rw [← hw1]; exact al_new _ _ _ (by first | rfl | (simp; done) | (simp; omega))
            have x0 : w1.cell? ⟨w.heap.size, 0, none⟩ = some (.int .i64 F) := blk_cell kx 0
            have x1 : w1.cell? ⟨w.heap.size, 1, none⟩ = some (.int .i64 O) := blk_cell kx 1
            have x2 : w1.cell? ⟨w.heap.size, 2, none⟩ = some (.int .i64 J) := blk_cell kx 2
            have x3 : w1.cell? ⟨w.heap.size, 3, none⟩ = some (.int .i64 G) := blk_cell kx 3
            have x4 : w1.cell? ⟨w.heap.size, 4, none⟩ = some (.int .i64 R) := blk_cell kx 4
            have x5 : w1.cell? ⟨w.heap.size, 5, none⟩ = some (.int .i64 D) := blk_cell kx 5
            have x6 : w1.cell? ⟨w.heap.size, 6, none⟩ = some (.int .i64 I) := blk_cell kx 6
            clear kx
            replace hv := hv.trans (hB.mono hv.size)
            clear hB hw1
            have hs1 := World.block_lt_of_cell? _ _ x0
            refine (c1 _).mono ?_
            rintro en w2 ⟨rfl, hB⟩
            replace x0 := cell_on hB x0
            replace x1 := cell_on hB x1
            replace x2 := cell_on hB x2
            replace x3 := cell_on hB x3
            replace x4 := cell_on hB x4
            replace x5 := cell_on hB x5
            replace x6 := cell_on hB x6
            replace hv := hv.trans (hB.mono hv.size)
            clear hB c1
            go_wp2_with fail
            refine (c2 _).mono ?_
            rintro en w3 ⟨rfl, hB⟩
            replace x0 := cell_on hB x0
            replace x1 := cell_on hB x1
            replace x2 := cell_on hB x2
            replace x3 := cell_on hB x3
            replace x4 := cell_on hB x4
            replace x5 := cell_on hB x5
            replace x6 := cell_on hB x6
            replace hv := hv.trans (hB.mono hv.size)
            clear hB c2
            go_wp2_with fail
            refine (c4 _).mono ?_
            rintro en w4 ⟨rfl, hB⟩
            replace x0 := cell_on hB x0
            replace x1 := cell_on hB x1
            replace x2 := cell_on hB x2
            replace x3 := cell_on hB x3
            replace x4 := cell_on hB x4
            replace x5 := cell_on hB x5
            replace x6 := cell_on hB x6
            replace hv := hv.trans (hB.mono hv.size)
            clear hB c4
            go_wp2_with fail
            try simp only [hrr]
            refine (c5 _).mono ?_
            rintro en w5 ⟨rfl, hB⟩
            replace x0 := cell_on hB x0
            replace x1 := cell_on hB x1
            replace x2 := cell_on hB x2
            replace x3 := cell_on hB x3
            replace x4 := cell_on hB x4
            replace x5 := cell_on hB x5
            replace x6 := cell_on hB x6
            replace hv := hv.trans (hB.mono hv.size)
            clear hB c5
            go_wp2_with fail
            refine (c6 _).mono ?_
            rintro en w6 ⟨rfl, hB⟩
            replace x0 := cell_on hB x0
            replace x1 := cell_on hB x1
            replace x2 := cell_on hB x2
            replace x3 := cell_on hB x3
            replace x4 := cell_on hB x4
            replace x5 := cell_on hB x5
            replace x6 := cell_on hB x6
            replace hv := hv.trans (hB.mono hv.size)
            clear hB c6
            go_wp2_with fail
            go_ret2
            exact ⟨rfl, hv⟩
        · have hd4 := of_decide_eq_true hd2
          have hin : inB d 1000000000000000 = false := by unfold inB; simp; omega
          rw [hin]
          simp only [Bool.false_eq_true, if_false]
          go_enter Try.func26, Try.ntmps26
          go_wp2_with fail
          obtain ⟨w1, hw1⟩ : ∃ w1, w.alloc (.cells #[.int .i64 F, .int .i64 O, .int .i64 J, .int .i64 G, .int .i64 R, .int .i64 D, .int .i64 I] 49) = w1 := ⟨_, rfl⟩
          try rw [hw1]
          have hB : Below w.heap.size w w1 := by rw [← hw1]; exact (Below.refl _ w).alloc (by first | exact Nat.le_refl _ | (simp; done) | (simp; omega)) _
          have kx : w1.heap[w.heap.size]? = some (.cells #[.int .i64 F, .int .i64 O, .int .i64 J, .int .i64 G, .int .i64 R, .int .i64 D, .int .i64 I] 49 (0, 0)) := by rw [← hw1]; exact al_new _ _ _ (by first | rfl | (simp; done) | (simp; omega))
          have x0 : w1.cell? ⟨w.heap.size, 0, none⟩ = some (.int .i64 F) := blk_cell kx 0
          have x1 : w1.cell? ⟨w.heap.size, 1, none⟩ = some (.int .i64 O) := blk_cell kx 1
          have x2 : w1.cell? ⟨w.heap.size, 2, none⟩ = some (.int .i64 J) := blk_cell kx 2
          have x3 : w1.cell? ⟨w.heap.size, 3, none⟩ = some (.int .i64 G) := blk_cell kx 3
          have x4 : w1.cell? ⟨w.heap.size, 4, none⟩ = some (.int .i64 R) := blk_cell kx 4
          have x5 : w1.cell? ⟨w.heap.size, 5, none⟩ = some (.int .i64 D) := blk_cell kx 5
          have x6 : w1.cell? ⟨w.heap.size, 6, none⟩ = some (.int .i64 I) := blk_cell kx 6
          clear kx
          replace hv := hv.trans (hB.mono hv.size)
          clear hB hw1
          have hs1 := World.block_lt_of_cell? _ _ x0
          refine (c1 _).mono ?_
          rintro en w2 ⟨rfl, hB⟩
          replace x0 := cell_on hB x0
          replace x1 := cell_on hB x1
          replace x2 := cell_on hB x2
          replace x3 := cell_on hB x3
          replace x4 := cell_on hB x4
          replace x5 := cell_on hB x5
          replace x6 := cell_on hB x6
          replace hv := hv.trans (hB.mono hv.size)
          clear hB c1
          go_wp2_with fail
          refine (c2 _).mono ?_
          rintro en w3 ⟨rfl, hB⟩
          replace x0 := cell_on hB x0
          replace x1 := cell_on hB x1
          replace x2 := cell_on hB x2
          replace x3 := cell_on hB x3
          replace x4 := cell_on hB x4
          replace x5 := cell_on hB x5
          replace x6 := cell_on hB x6
          replace hv := hv.trans (hB.mono hv.size)
          clear hB c2
          go_wp2_with fail
          go_ret2
          exact ⟨rfl, hv⟩
      · have hd4 := of_decide_eq_true hd1
        have hin : inB d 1000000000000000 = false := by unfold inB; simp; omega
        rw [hin]
        simp only [Bool.false_eq_true, if_false]
        go_enter Try.func26, Try.ntmps26
        go_wp2_with fail
        obtain ⟨w1, hw1⟩ : ∃ w1, w.alloc (.cells #[.int .i64 F, .int .i64 O, .int .i64 J, .int .i64 G, .int .i64 R, .int .i64 D, .int .i64 I] 49) = w1 := ⟨_, rfl⟩
        try rw [hw1]
        have hB : Below w.heap.size w w1 := by rw [← hw1]; exact (Below.refl _ w).alloc (by first | exact Nat.le_refl _ | (simp; done) | (simp; omega)) _
        have kx : w1.heap[w.heap.size]? = some (.cells #[.int .i64 F, .int .i64 O, .int .i64 J, .int .i64 G, .int .i64 R, .int .i64 D, .int .i64 I] 49 (0, 0)) := by rw [← hw1]; exact al_new _ _ _ (by first | rfl | (simp; done) | (simp; omega))
        have x0 : w1.cell? ⟨w.heap.size, 0, none⟩ = some (.int .i64 F) := blk_cell kx 0
        have x1 : w1.cell? ⟨w.heap.size, 1, none⟩ = some (.int .i64 O) := blk_cell kx 1
        have x2 : w1.cell? ⟨w.heap.size, 2, none⟩ = some (.int .i64 J) := blk_cell kx 2
        have x3 : w1.cell? ⟨w.heap.size, 3, none⟩ = some (.int .i64 G) := blk_cell kx 3
        have x4 : w1.cell? ⟨w.heap.size, 4, none⟩ = some (.int .i64 R) := blk_cell kx 4
        have x5 : w1.cell? ⟨w.heap.size, 5, none⟩ = some (.int .i64 D) := blk_cell kx 5
        have x6 : w1.cell? ⟨w.heap.size, 6, none⟩ = some (.int .i64 I) := blk_cell kx 6
        clear kx
        replace hv := hv.trans (hB.mono hv.size)
        clear hB hw1
        have hs1 := World.block_lt_of_cell? _ _ x0
        refine (c1 _).mono ?_
        rintro en w2 ⟨rfl, hB⟩
        replace x0 := cell_on hB x0
        replace x1 := cell_on hB x1
        replace x2 := cell_on hB x2
        replace x3 := cell_on hB x3
        replace x4 := cell_on hB x4
        replace x5 := cell_on hB x5
        replace x6 := cell_on hB x6
        replace hv := hv.trans (hB.mono hv.size)
        clear hB c1
        go_wp2_with fail
        refine (c2 _).mono ?_
        rintro en w3 ⟨rfl, hB⟩
        replace x0 := cell_on hB x0
        replace x1 := cell_on hB x1
        replace x2 := cell_on hB x2
        replace x3 := cell_on hB x3
        replace x4 := cell_on hB x4
        replace x5 := cell_on hB x5
        replace x6 := cell_on hB x6
        replace hv := hv.trans (hB.mono hv.size)
        clear hB c2
        go_wp2_with fail
        go_ret2
        exact ⟨rfl, hv⟩
set_option maxHeartbeats 1000000 in
theorem rWrap_calls (F O J G R D I n : Int) (w : World) :
    Calls Try.prog 24 #[.agg #[.int .i64 F, .int .i64 O, .int .i64 J, .int .i64 G, .int .i64 R, .int .i64 D, .int .i64 I], .int .i64 n] w fun e w' => e = .returned (.tuple #[.int .i64 (wrapR F O J G R D I n).1, .int .i64 (wrapR F O J G R D I n).2]) ∧ Below w.heap.size w w' := by
  have hv := Below.refl w.heap.size w
  have c1 := fun w => rCheck_calls F O J G R D I w
  unfold wrapR
  cases hk : okC F O J G R D I
  · rw [hk, if_neg (by simp)] at c1
    simp only [Bool.false_eq_true, if_false]
    go_enter Try.func24, Try.ntmps24
    go_wp2_with fail
    obtain ⟨w1, hw1⟩ : ∃ w1, w.alloc (.cells #[.int .i64 F, .int .i64 O, .int .i64 J, .int .i64 G, .int .i64 R, .int .i64 D, .int .i64 I] 49) = w1 := ⟨_, rfl⟩
    try rw [hw1]
    have hB : Below w.heap.size w w1 := by rw [← hw1]; exact (Below.refl _ w).alloc (by first | exact Nat.le_refl _ | (simp; done) | (simp; omega)) _
    have kx : w1.heap[w.heap.size]? = some (.cells #[.int .i64 F, .int .i64 O, .int .i64 J, .int .i64 G, .int .i64 R, .int .i64 D, .int .i64 I] 49 (0, 0)) := by rw [← hw1]; exact al_new _ _ _ (by first | rfl | (simp; done) | (simp; omega))
    have x0 : w1.cell? ⟨w.heap.size, 0, none⟩ = some (.int .i64 F) := blk_cell kx 0
    have x1 : w1.cell? ⟨w.heap.size, 1, none⟩ = some (.int .i64 O) := blk_cell kx 1
    have x2 : w1.cell? ⟨w.heap.size, 2, none⟩ = some (.int .i64 J) := blk_cell kx 2
    have x3 : w1.cell? ⟨w.heap.size, 3, none⟩ = some (.int .i64 G) := blk_cell kx 3
    have x4 : w1.cell? ⟨w.heap.size, 4, none⟩ = some (.int .i64 R) := blk_cell kx 4
    have x5 : w1.cell? ⟨w.heap.size, 5, none⟩ = some (.int .i64 D) := blk_cell kx 5
    have x6 : w1.cell? ⟨w.heap.size, 6, none⟩ = some (.int .i64 I) := blk_cell kx 6
    clear kx
    replace hv := hv.trans (hB.mono hv.size)
    clear hB hw1
    have hs1 := World.block_lt_of_cell? _ _ x0
    refine (c1 _).mono ?_
    rintro en w2 ⟨rfl, hB⟩
    replace x0 := cell_on hB x0
    replace x1 := cell_on hB x1
    replace x2 := cell_on hB x2
    replace x3 := cell_on hB x3
    replace x4 := cell_on hB x4
    replace x5 := cell_on hB x5
    replace x6 := cell_on hB x6
    replace hv := hv.trans (hB.mono hv.size)
    clear hB c1
    go_wp2_with fail
    go_ret2
    exact ⟨rfl, hv⟩
  · rw [hk, if_pos rfl] at c1
    simp only [if_true]
    have HK := CtrOk.of hk
    cases hd1 : decide (n < -1000000000000000000)
    · cases hd2 : decide (1000000000000000000 < n)
      · have hd3 := of_decide_eq_false hd1
        have hd4 := of_decide_eq_false hd2
        have hin : inB n 1000000000000000000 = true := by unfold inB; simp; omega
        rw [hin]
        simp only [if_true]
        have c4 := fun w => rwrap_calls F O J G R D I n w HK.r (by omega)
        clear HK hk hin
        go_enter Try.func24, Try.ntmps24
        go_wp2_with fail
        obtain ⟨w1, hw1⟩ : ∃ w1, w.alloc (.cells #[.int .i64 F, .int .i64 O, .int .i64 J, .int .i64 G, .int .i64 R, .int .i64 D, .int .i64 I] 49) = w1 := ⟨_, rfl⟩
        try rw [hw1]
        have hB : Below w.heap.size w w1 := by rw [← hw1]; exact (Below.refl _ w).alloc (by first | exact Nat.le_refl _ | (simp; done) | (simp; omega)) _
        have kx : w1.heap[w.heap.size]? = some (.cells #[.int .i64 F, .int .i64 O, .int .i64 J, .int .i64 G, .int .i64 R, .int .i64 D, .int .i64 I] 49 (0, 0)) := by rw [← hw1]; exact al_new _ _ _ (by first | rfl | (simp; done) | (simp; omega))
        have x0 : w1.cell? ⟨w.heap.size, 0, none⟩ = some (.int .i64 F) := blk_cell kx 0
        have x1 : w1.cell? ⟨w.heap.size, 1, none⟩ = some (.int .i64 O) := blk_cell kx 1
        have x2 : w1.cell? ⟨w.heap.size, 2, none⟩ = some (.int .i64 J) := blk_cell kx 2
        have x3 : w1.cell? ⟨w.heap.size, 3, none⟩ = some (.int .i64 G) := blk_cell kx 3
        have x4 : w1.cell? ⟨w.heap.size, 4, none⟩ = some (.int .i64 R) := blk_cell kx 4
        have x5 : w1.cell? ⟨w.heap.size, 5, none⟩ = some (.int .i64 D) := blk_cell kx 5
        have x6 : w1.cell? ⟨w.heap.size, 6, none⟩ = some (.int .i64 I) := blk_cell kx 6
        clear kx
        replace hv := hv.trans (hB.mono hv.size)
        clear hB hw1
        have hs1 := World.block_lt_of_cell? _ _ x0
        refine (c1 _).mono ?_
        rintro en w2 ⟨rfl, hB⟩
        replace x0 := cell_on hB x0
        replace x1 := cell_on hB x1
        replace x2 := cell_on hB x2
        replace x3 := cell_on hB x3
        replace x4 := cell_on hB x4
        replace x5 := cell_on hB x5
        replace x6 := cell_on hB x6
        replace hv := hv.trans (hB.mono hv.size)
        clear hB c1
        go_wp2_with fail
        refine (c4 _).mono ?_
        rintro en w3 ⟨rfl, hB⟩
        replace x0 := cell_on hB x0
        replace x1 := cell_on hB x1
        replace x2 := cell_on hB x2
        replace x3 := cell_on hB x3
        replace x4 := cell_on hB x4
        replace x5 := cell_on hB x5
        replace x6 := cell_on hB x6
        replace hv := hv.trans (hB.mono hv.size)
        clear hB c4
        go_wp2_with fail
        go_ret2
        exact ⟨rfl, hv⟩
      · have hd4 := of_decide_eq_true hd2
        have hin : inB n 1000000000000000000 = false := by unfold inB; simp; omega
        rw [hin]
        simp only [Bool.false_eq_true, if_false]
        go_enter Try.func24, Try.ntmps24
        go_wp2_with fail
        obtain ⟨w1, hw1⟩ : ∃ w1, w.alloc (.cells #[.int .i64 F, .int .i64 O, .int .i64 J, .int .i64 G, .int .i64 R, .int .i64 D, .int .i64 I] 49) = w1 := ⟨_, rfl⟩
        try rw [hw1]
        have hB : Below w.heap.size w w1 := by rw [← hw1]; exact (Below.refl _ w).alloc (by first | exact Nat.le_refl _ | (simp; done) | (simp; omega)) _
        have kx : w1.heap[w.heap.size]? = some (.cells #[.int .i64 F, .int .i64 O, .int .i64 J, .int .i64 G, .int .i64 R, .int .i64 D, .int .i64 I] 49 (0, 0)) := by rw [← hw1]; exact al_new _ _ _ (by first | rfl | (simp; done) | (simp; omega))
        have x0 : w1.cell? ⟨w.heap.size, 0, none⟩ = some (.int .i64 F) := blk_cell kx 0
        have x1 : w1.cell? ⟨w.heap.size, 1, none⟩ = some (.int .i64 O) := blk_cell kx 1
        have x2 : w1.cell? ⟨w.heap.size, 2, none⟩ = some (.int .i64 J) := blk_cell kx 2
        have x3 : w1.cell? ⟨w.heap.size, 3, none⟩ = some (.int .i64 G) := blk_cell kx 3
        have x4 : w1.cell? ⟨w.heap.size, 4, none⟩ = some (.int .i64 R) := blk_cell kx 4
        have x5 : w1.cell? ⟨w.heap.size, 5, none⟩ = some (.int .i64 D) := blk_cell kx 5
        have x6 : w1.cell? ⟨w.heap.size, 6, none⟩ = some (.int .i64 I) := blk_cell kx 6
        clear kx
        replace hv := hv.trans (hB.mono hv.size)
        clear hB hw1
        have hs1 := World.block_lt_of_cell? _ _ x0
        refine (c1 _).mono ?_
        rintro en w2 ⟨rfl, hB⟩
        replace x0 := cell_on hB x0
        replace x1 := cell_on hB x1
        replace x2 := cell_on hB x2
        replace x3 := cell_on hB x3
        replace x4 := cell_on hB x4
        replace x5 := cell_on hB x5
        replace x6 := cell_on hB x6
        replace hv := hv.trans (hB.mono hv.size)
        clear hB c1
        go_wp2_with fail
        go_ret2
        exact ⟨rfl, hv⟩
    · have hd4 := of_decide_eq_true hd1
      have hin : inB n 1000000000000000000 = false := by unfold inB; simp; omega
      rw [hin]
      simp only [Bool.false_eq_true, if_false]
      go_enter Try.func24, Try.ntmps24
      go_wp2_with fail
      obtain ⟨w1, hw1⟩ : ∃ w1, w.alloc (.cells #[.int .i64 F, .int .i64 O, .int .i64 J, .int .i64 G, .int .i64 R, .int .i64 D, .int .i64 I] 49) = w1 := ⟨_, rfl⟩
      try rw [hw1]
      have hB : Below w.heap.size w w1 := by rw [← hw1]; exact (Below.refl _ w).alloc (by first | exact Nat.le_refl _ | (simp; done) | (simp; omega)) _
      have kx : w1.heap[w.heap.size]? = some (.cells #[.int .i64 F, .int .i64 O, .int .i64 J, .int .i64 G, .int .i64 R, .int .i64 D, .int .i64 I] 49 (0, 0)) := by rw [← hw1]; exact al_new _ _ _ (by first | rfl | (simp; done) | (simp; omega))
      have x0 : w1.cell? ⟨w.heap.size, 0, none⟩ = some (.int .i64 F) := blk_cell kx 0
      have x1 : w1.cell? ⟨w.heap.size, 1, none⟩ = some (.int .i64 O) := blk_cell kx 1
      have x2 : w1.cell? ⟨w.heap.size, 2, none⟩ = some (.int .i64 J) := blk_cell kx 2
      have x3 : w1.cell? ⟨w.heap.size, 3, none⟩ = some (.int .i64 G) := blk_cell kx 3
      have x4 : w1.cell? ⟨w.heap.size, 4, none⟩ = some (.int .i64 R) := blk_cell kx 4
      have x5 : w1.cell? ⟨w.heap.size, 5, none⟩ = some (.int .i64 D) := blk_cell kx 5
      have x6 : w1.cell? ⟨w.heap.size, 6, none⟩ = some (.int .i64 I) := blk_cell kx 6
      clear kx
      replace hv := hv.trans (hB.mono hv.size)
      clear hB hw1
      have hs1 := World.block_lt_of_cell? _ _ x0
      refine (c1 _).mono ?_
      rintro en w2 ⟨rfl, hB⟩
      replace x0 := cell_on hB x0
      replace x1 := cell_on hB x1
      replace x2 := cell_on hB x2
      replace x3 := cell_on hB x3
      replace x4 := cell_on hB x4
      replace x5 := cell_on hB x5
      replace x6 := cell_on hB x6
      replace hv := hv.trans (hB.mono hv.size)
      clear hB c1
      go_wp2_with fail
      go_ret2
      exact ⟨rfl, hv⟩
end Go.Proofs.Ytjgnadighdbjlaa.C
