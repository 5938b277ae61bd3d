/- Contracts of the counter's draws, roundings and turns, by hand. -/
import Derived.OwnWalk
import Derived.Deep.RegionHeld3
import Derived.Test.YtjgnadighdbjlaaCa
namespace Go.Proofs.Ytjgnadighdbjlaa.C
open Go.RowKit Go.Shelf Go.Maps Go.Proofs.YtjgnadighdbjlaaW.PrintWords Go.Proofs.YtjgnadighdbjlaaW.PrintLast Go.Proofs.YtjgnadighdbjlaaW.PrintMore
set_option linter.unusedVariables false
set_option linter.unusedSimpArgs false
theorem wr (n : Int) (h0 : -9223372036854775808 ≤ n) (h1 : n ≤ 9223372036854775807) : IntKind.i64.wrap n = n := by rw [IntKind.wrap_i64]; omega
theorem mixU (k : Int) (h0 : 0 ≤ k) (h1 : k ≤ 1000000000000000) : IntKind.u64.wrap k = k := by rw [IntKind.wrap_u64]; omega
/-- A draw. -/
def drawF (seed k c i m : Int) : Int := mixF (mixF (mixF seed k) c) i % (2 * m + 1) - m
theorem drawF_range (seed k c i m : Int) (h : 0 ≤ m) : -m ≤ drawF seed k c i m ∧ drawF seed k c i m ≤ m := by
  unfold drawF
  have := Int.emod_nonneg (mixF (mixF (mixF seed k) c) i) (b := 2 * m + 1) (by omega)
  have := Int.emod_lt_of_pos (mixF (mixF (mixF seed k) c) i) (b := 2 * m + 1) (by omega)
  omega
theorem draw_calls (seed k c i m : Int) (w : World) (hk : 0 ≤ k ∧ k ≤ 1000000000000000) (hc : 0 ≤ c ∧ c ≤ 1000000000000000) (hi : 0 ≤ i ∧ i ≤ 1000000000000000) (hm : 0 ≤ m ∧ m ≤ 100000000000000) :
    Calls Try.prog 79 #[.int .u64 seed, .int .i64 k, .int .i64 c, .int .i64 i, .int .i64 m] w fun e w' => e = .returned (.int .i64 (drawF seed k c i m)) ∧ Below w.heap.size w w' := by
  have e1 := mixU k hk.1 hk.2
  have e2 := mixU c hc.1 hc.2
  have e3 := mixU i hi.1 hi.2
  have hr := mixF_range (mixF (mixF seed k) c) i
  have c1 := fun w => mix_calls seed k w
  have c2 := fun w => mix_calls (mixF seed k) c w
  have c3 := fun w => mix_calls (mixF (mixF seed k) c) i w
  unfold drawF
  generalize mixF (mixF (mixF seed k) c) i = z at *
  have t0 := Int.emod_nonneg z (b := 2 * m + 1) (by omega)
  have t1 := Int.emod_lt_of_pos z (b := 2 * m + 1) (by omega)
  have t2 := Int.tmod_eq_emod_of_nonneg (a := z) hr.1 (b := 2 * m + 1)
  have t3 := mixU (2 * m + 1) (by omega)
  have hv := Below.refl w.heap.size w
  go_enter Try.func79, Try.ntmps79
  go_wp2_with fail
  refine (c1 _).mono ?_
  rintro en w1 ⟨rfl, hB⟩
  replace hv := hv.trans hB
  clear hB c1
  go_wp2_with fail
  refine (c2 _).mono ?_
  rintro en w2 ⟨rfl, hB⟩
  replace hv := hv.trans (hB.mono hv.size)
  clear hB c2
  go_wp2_with fail
  refine (c3 _).mono ?_
  rintro en w3 ⟨rfl, hB⟩
  replace hv := hv.trans (hB.mono hv.size)
  clear hB c3
  go_wp2_with fail
  go_ret
  exact ⟨rfl, hv⟩
set_option maxHeartbeats 1000000 in
theorem wdraw_calls (seed k c i m : Int) (w : World) (hk : 0 ≤ k ∧ k ≤ 1000000000000000) (hc : 0 ≤ c ∧ c ≤ 1000000000000000) (hi : 0 ≤ i ∧ i ≤ 1000000000000000) (hm : 0 ≤ m ∧ m ≤ 100000000000000) :
    Calls Try.prog 71 #[.int .u64 seed, .int .i64 k, .int .i64 c, .int .i64 i, .int .i64 m] w fun e w' => e = .returned (.tuple #[.int .i64 (drawF seed k c i m), .int .i64 0]) ∧ Below w.heap.size w w' := by
  have ci := fun w => win_calls m 0 1000000000000000 w
  rw [show (decide (0 ≤ m) && decide (m ≤ 1000000000000000)) = true by simp; omega] at ci
  have cd := fun w => draw_calls seed k c i m w hk hc hi hm
  have hv := Below.refl w.heap.size w
  go_enter Try.func71, Try.ntmps71
  go_wp2_with fail
  refine (ci _).mono ?_
  rintro en w1 ⟨rfl, hB⟩
  replace hv := hv.trans (hB.mono hv.size)
  clear hB ci
  go_wp2_with fail
  refine (cd _).mono ?_
  rintro en w2 ⟨rfl, hB⟩
  replace hv := hv.trans (hB.mono hv.size)
  clear hB cd
  go_wp2_with fail
  go_ret2
  exact ⟨rfl, hv⟩
set_option maxHeartbeats 1000000 in
theorem rdraw_calls (seed k c i m : Int) (w : World) (hk : 0 ≤ k ∧ k ≤ 1000000000000000) (hc : 0 ≤ c ∧ c ≤ 1000000000000000) (hi : 0 ≤ i ∧ i ≤ 1000000000000000) (hm : 0 ≤ m ∧ m ≤ 100000000000000) :
    Calls Try.prog 52 #[.int .u64 seed, .int .i64 k, .int .i64 c, .int .i64 i, .int .i64 m] w fun e w' => e = .returned (.tuple #[.int .i64 (drawF seed k c i m), .int .i64 0]) ∧ Below w.heap.size w w' := by
  have e1 := mixU k hk.1 hk.2
  have e2 := mixU c hc.1 hc.2
  have e3 := mixU i hi.1 hi.2
  have hr := mixF_range (mixF (mixF seed k) c) i
  have c1 := fun w => rmix_calls seed k w
  have c2 := fun w => rmix_calls (mixF seed k) c w
  have c3 := fun w => rmix_calls (mixF (mixF seed k) c) i w
  unfold drawF
  generalize mixF (mixF (mixF seed k) c) i = z at *
  have t0 := Int.emod_nonneg z (b := 2 * m + 1) (by omega)
  have t1 := Int.emod_lt_of_pos z (b := 2 * m + 1) (by omega)
  have t2 := Int.tmod_eq_emod_of_nonneg (a := z) hr.1 (b := 2 * m + 1)
  have t3 := mixU (1 + 2 * m) (by omega)
  have t4 : 1 + 2 * m = 2 * m + 1 := by omega
  have hv := Below.refl w.heap.size w
  go_enter Try.func52, Try.ntmps52
  go_wp2_with fail
  refine (c1 _).mono ?_
  rintro en w1 ⟨rfl, hB⟩
  replace hv := hv.trans (hB.mono hv.size)
  clear hB c1
  go_wp2_with fail
  refine (c2 _).mono ?_
  rintro en w2 ⟨rfl, hB⟩
  replace hv := hv.trans (hB.mono hv.size)
  clear hB c2
  go_wp2_with fail
  refine (c3 _).mono ?_
  rintro en w3 ⟨rfl, hB⟩
  replace hv := hv.trans (hB.mono hv.size)
  clear hB c3
  go_wp2_with fail
  go_ret2
  exact ⟨rfl, hv⟩
theorem fault_calls (F O J G R D I : Int) (w : World) (hJ : 0 ≤ J ∧ J ≤ 1000000000) (hG : 0 ≤ G ∧ G ≤ 1000000000) :
    Calls Try.prog 48 #[.agg #[.int .i64 F, .int .i64 O, .int .i64 J, .int .i64 G, .int .i64 R, .int .i64 D, .int .i64 I]] w fun e w' => e = .returned (.int .i64 (J + G / 2)) ∧ Below w.heap.size w w' := by
  have t0 := Int.tdiv_eq_ediv_of_nonneg (a := G) hG.1 (b := 2)
  have hv := Below.refl w.heap.size w
  go_enter Try.func48, Try.ntmps48
  go_wp2
  go_ret
  exact ⟨rfl, hv.alloc (Nat.le_refl _) _⟩
theorem rfault_calls (F O J G R D I : Int) (w : World) (hJ : 0 ≤ J ∧ J ≤ 1000000000) (hG : 0 ≤ G ∧ G ≤ 1000000000) :
    Calls Try.prog 54 #[.agg #[.int .i64 F, .int .i64 O, .int .i64 J, .int .i64 G, .int .i64 R, .int .i64 D, .int .i64 I]] w fun e w' => e = .returned (.int .i64 (J + G / 2)) ∧ Below w.heap.size w w' := by
  have t0 := Int.tdiv_eq_ediv_of_nonneg (a := G) hG.1 (b := 2)
  have hv := Below.refl w.heap.size w
  go_enter Try.func54, Try.ntmps54
  go_wp2
  go_ret
  exact ⟨rfl, hv.alloc (Nat.le_refl _) _⟩
/-- A number that is wrapped. -/
def wrapF (R n : Int) : Int := (n + R / 2) % R - R / 2
theorem wrap_calls (F O J G R D I n : Int) (w : World) (hR : 1 ≤ R ∧ R ≤ 1000000000000000) (hn : -4000000000000000000 ≤ n ∧ n ≤ 4000000000000000000) :
    Calls Try.prog 49 #[.agg #[.int .i64 F, .int .i64 O, .int .i64 J, .int .i64 G, .int .i64 R, .int .i64 D, .int .i64 I], .int .i64 n] w fun e w' => e = .returned (.int .i64 (wrapF R n)) ∧ Below w.heap.size w w' := by
  have t0 := Int.tdiv_eq_ediv_of_nonneg (a := R) (by omega) (b := 2)
  have t1 := Int.emod_nonneg (n + R / 2) (b := R) (by omega)
  have t2 := Int.emod_lt_of_pos (n + R / 2) (b := R) (by omega)
  have t3 := Int.mul_ediv_add_emod (n + R / 2) R
  rw [Int.mul_comm] at t3
  have hw1 := wr (R / 2) (by omega) (by omega)
  have hw2 := wr ((n + R / 2) / R * R) (by omega) (by omega)
  have hw3 := wr (n + R / 2 - (n + R / 2) / R * R) (by omega) (by omega)
  have hw4 := wr (n + R / 2 - (n + R / 2) / R * R - R / 2) (by omega) (by omega)
  have HF : Aside0 (n + R / 2 - (n + R / 2) / R * R - R / 2 = wrapF R n) := ⟨by unfold wrapF; omega⟩
  have c1 := fun w => floor_calls (n + R / 2) R w (by omega) (by omega)
  have hv := Below.refl w.heap.size w
  go_enter Try.func49, Try.ntmps49
  go_wp2_with fail
  obtain ⟨w1, hw1⟩ : ∃ w1, w.alloc (.cells #[.int .i64 F, .int .i64 O, .int .i64 J, .int .i64 G, .int .i64 R, .int .i64 D, .int .i64 I] 51) = w1 := ⟨_, rfl⟩
  try rw [hw1]
  have hB : Below w.heap.size w w1 := by rw [← hw1]; exact (Below.refl _ w).alloc (by first | exact Nat.le_refl _ | (simp; done) | (simp; omega)) _
  have kx : w1.heap[w.heap.size]? = some (.cells #[.int .i64 F, .int .i64 O, .int .i64 J, .int .i64 G, .int .i64 R, .int .i64 D, .int .i64 I] 51 (0, 0)) := by rw [← hw1]; exact al_new _ _ _ (by first | rfl | (simp; done) | (simp; omega))
  have x0 : w1.cell? ⟨w.heap.size, 0, none⟩ = some (.int .i64 F) := blk_cell kx 0
  have x1 : w1.cell? ⟨w.heap.size, 1, none⟩ = some (.int .i64 O) := blk_cell kx 1
  have x2 : w1.cell? ⟨w.heap.size, 2, none⟩ = some (.int .i64 J) := blk_cell kx 2
  have x3 : w1.cell? ⟨w.heap.size, 3, none⟩ = some (.int .i64 G) := blk_cell kx 3
  have x4 : w1.cell? ⟨w.heap.size, 4, none⟩ = some (.int .i64 R) := blk_cell kx 4
  have x5 : w1.cell? ⟨w.heap.size, 5, none⟩ = some (.int .i64 D) := blk_cell kx 5
  have x6 : w1.cell? ⟨w.heap.size, 6, none⟩ = some (.int .i64 I) := blk_cell kx 6
  clear kx
  replace hv := hv.trans (hB.mono hv.size)
  clear hB hw1
  clear x0 x1 x2 x3 x5 x6
  have hs1 := World.block_lt_of_cell? _ _ x4
  have hS : ∀ w', Below w1.heap.size w1 w' → ((w'.cell? ⟨w.heap.size, 4, none⟩ = some (.int .i64 R)) ∧ Below w1.heap.size w1 w') := fun w' hB => ⟨cell_on hB x4, hB⟩
  go_region_held3 (fun w' => (w'.cell? ⟨w.heap.size, 4, none⟩ = some (.int .i64 R)) ∧ Below w1.heap.size w1 w') (first | exact hS _ (Below.refl _ _).drew | assumption | (have hh := ‹(_) ∧ Below w1.heap.size w1 _›; exact hS _ (hh.2.trans (hB.mono hh.2.size))))
    (first | (go_at_call 72; refine (c1 _).mono ?_; rintro e w' ⟨rfl, hB⟩))
  rename_i hHeld
  have hB := hHeld.2
  clear hHeld hS c1
  rename World => w99
  replace x4 := cell_on hB x4
  replace hv := hv.trans (hB.mono hv.size)
  clear hB
  try simp only [hw1, hw2, hw3, hw4]
  go_wp2
  go_ret
  exact ⟨by first | rfl | (rw [← HF.out]; rfl), hv⟩
theorem rwrap_calls (F O J G R D I n : Int) (w : World) (hR : 1 ≤ R ∧ R ≤ 1000000000000000) (hn : -4000000000000000000 ≤ n ∧ n ≤ 4000000000000000000) :
    Calls Try.prog 50 #[.agg #[.int .i64 F, .int .i64 O, .int .i64 J, .int .i64 G, .int .i64 R, .int .i64 D, .int .i64 I], .int .i64 n] w fun e w' => e = .returned (.int .i64 (wrapF R n)) ∧ Below w.heap.size w w' := by
  have t0 := Int.tdiv_eq_ediv_of_nonneg (a := R) (by omega) (b := 2)
  have t1 := Int.emod_nonneg (n + R / 2) (b := R) (by omega)
  have t2 := Int.emod_lt_of_pos (n + R / 2) (b := R) (by omega)
  have t3 := Int.mul_ediv_add_emod (n + R / 2) R
  rw [Int.mul_comm] at t3
  have hw1 := wr (R / 2) (by omega) (by omega)
  have hw2 := wr (n + R / 2) (by omega) (by omega)
  have hw3 := wr ((n + R / 2) % R - R / 2) (by omega) (by omega)
  have HF : Aside0 ((n + R / 2) % R - R / 2 = wrapF R n) := ⟨by unfold wrapF; omega⟩
  have c1 := fun w => modulo_calls (n + R / 2) R w (by omega) (by omega)
  have hv := Below.refl w.heap.size w
  go_enter Try.func50, Try.ntmps50
  go_wp2_with fail
  obtain ⟨w1, hw1⟩ : ∃ w1, w.alloc (.cells #[.int .i64 F, .int .i64 O, .int .i64 J, .int .i64 G, .int .i64 R, .int .i64 D, .int .i64 I] 49) = w1 := ⟨_, rfl⟩
  try rw [hw1]
  have hB : Below w.heap.size w w1 := by rw [← hw1]; exact (Below.refl _ w).alloc (by first | exact Nat.le_refl _ | (simp; done) | (simp; omega)) _
  have kx : w1.heap[w.heap.size]? = some (.cells #[.int .i64 F, .int .i64 O, .int .i64 J, .int .i64 G, .int .i64 R, .int .i64 D, .int .i64 I] 49 (0, 0)) := by rw [← hw1]; exact al_new _ _ _ (by first | rfl | (simp; done) | (simp; omega))
  have x0 : w1.cell? ⟨w.heap.size, 0, none⟩ = some (.int .i64 F) := blk_cell kx 0
  have x1 : w1.cell? ⟨w.heap.size, 1, none⟩ = some (.int .i64 O) := blk_cell kx 1
  have x2 : w1.cell? ⟨w.heap.size, 2, none⟩ = some (.int .i64 J) := blk_cell kx 2
  have x3 : w1.cell? ⟨w.heap.size, 3, none⟩ = some (.int .i64 G) := blk_cell kx 3
  have x4 : w1.cell? ⟨w.heap.size, 4, none⟩ = some (.int .i64 R) := blk_cell kx 4
  have x5 : w1.cell? ⟨w.heap.size, 5, none⟩ = some (.int .i64 D) := blk_cell kx 5
  have x6 : w1.cell? ⟨w.heap.size, 6, none⟩ = some (.int .i64 I) := blk_cell kx 6
  clear kx
  replace hv := hv.trans (hB.mono hv.size)
  clear hB hw1
  clear x0 x1 x2 x3 x5 x6
  have hs1 := World.block_lt_of_cell? _ _ x4
  have hS : ∀ w', Below w1.heap.size w1 w' → ((w'.cell? ⟨w.heap.size, 4, none⟩ = some (.int .i64 R)) ∧ Below w1.heap.size w1 w') := fun w' hB => ⟨cell_on hB x4, hB⟩
  go_region_held3 (fun w' => (w'.cell? ⟨w.heap.size, 4, none⟩ = some (.int .i64 R)) ∧ Below w1.heap.size w1 w') (first | exact hS _ (Below.refl _ _).drew | assumption | (have hh := ‹(_) ∧ Below w1.heap.size w1 _›; exact hS _ (hh.2.trans (hB.mono hh.2.size))))
    (first | (go_at_call 53; refine (c1 _).mono ?_; rintro e w' ⟨rfl, hB⟩))
  rename_i hHeld
  have hB := hHeld.2
  clear hHeld hS c1
  rename World => w99
  replace x4 := cell_on hB x4
  replace hv := hv.trans (hB.mono hv.size)
  clear hB
  try simp only [hw1, hw2, hw3]
  go_wp2
  go_ret
  exact ⟨by first | rfl | (rw [← HF.out]; rfl), hv⟩
end Go.Proofs.Ytjgnadighdbjlaa.C
