/- Contracts of what a counter shows, by hand. -/
import Derived.OwnWalk
import Derived.Deep.RegionHeld3
import Derived.Test.YtjgnadighdbjlaaCf
namespace Go.Proofs.Ytjgnadighdbjlaa.C
open Go.RowKit Go.Shelf Go.Maps Go.Proofs.YtjgnadighdbjlaaW.PrintWords Go.Proofs.YtjgnadighdbjlaaW.PrintLast Go.Proofs.YtjgnadighdbjlaaW.PrintMore
set_option linter.unusedVariables false
set_option linter.unusedSimpArgs false
/-- A right counter's numbers. -/
structure CtrOk (F O J G R D I : Int) : Prop where
  f : 1 ≤ F ∧ F ≤ 1000
  o : -1000000000000 ≤ O ∧ O ≤ 1000000000000
  j : 0 ≤ J ∧ J ≤ 1000000000
  g : 1 ≤ G ∧ G ≤ 1000000000
  r : 1 ≤ R ∧ R ≤ 1000000000000000
  d : 1 ≤ D ∧ D ≤ 100000
  i : 0 ≤ I ∧ I ≤ 1000000
  m : R % (2 * G) = 0
theorem CtrOk.of {F O J G R D I : Int} (h : okC F O J G R D I = true) : CtrOk F O J G R D I := by
  have := (okC_iff F O J G R D I).1 h
  refine ⟨by omega, by omega, by omega, by omega, ?_, by omega, by omega, this.2.2.2.2.2.2.2.2.2.2.2.2.2.2⟩
  omega
theorem CtrOk.even {F O J G R D I : Int} (h : CtrOk F O J G R D I) : R % 2 = 0 := by
  obtain ⟨k, hk⟩ := Int.dvd_of_emod_eq_zero h.m
  rw [hk, Int.mul_assoc, Int.mul_emod_right]
/-- What a counter measures, before it is rounded. -/
def rawF (F O J I seed s d : Int) : Int := F * d + O + drawF seed 3 I s J
/-- What a counter shows. -/
def showF (F O J G R I seed s d : Int) : Int := wrapF R ((2 * rawF F O J I seed s d + G) / (2 * G) * G)
theorem mul_bound {F d M : Int} (hF : 0 ≤ F) (h1 : -M ≤ d) (h2 : d ≤ M) : -(F * M) ≤ F * d ∧ F * d ≤ F * M := by
  refine ⟨?_, Int.mul_le_mul_of_nonneg_left h2 hF⟩
  have := Int.mul_le_mul_of_nonneg_left h1 hF
  rw [Int.mul_neg] at this
  exact this
theorem raw_bound {F O J G R D I seed s d : Int} (h : CtrOk F O J G R D I) (hd : -1000000000000000 ≤ d ∧ d ≤ 1000000000000000) :
    (-1000000000000000000 ≤ F * d ∧ F * d ≤ 1000000000000000000) ∧ -1001001000000000000 ≤ rawF F O J I seed s d ∧ rawF F O J I seed s d ≤ 1001001000000000000 := by
  have hf := h.f; have ho := h.o; have hj := h.j
  have a := mul_bound (F := F) (d := d) (M := 1000000000000000) (by omega) hd.1 hd.2
  have b := drawF_range seed 3 I s J hj.1
  unfold rawF
  omega
theorem round_bound {G r : Int} (hG : 1 ≤ G) : -(r.natAbs : Int) - G ≤ (2 * r + G) / (2 * G) * G ∧ (2 * r + G) / (2 * G) * G ≤ (r.natAbs : Int) + G := by
  have h1 := Int.mul_ediv_add_emod (2 * r + G) (2 * G)
  have h2 := Int.emod_nonneg (2 * r + G) (b := 2 * G) (by omega)
  have h3 := Int.emod_lt_of_pos (2 * r + G) (b := 2 * G) (by omega)
  rw [Int.mul_assoc, Int.mul_comm G] at h1
  omega
set_option maxHeartbeats 1000000 in
theorem show_calls (F O J G R D I seed s d : Int) (w : World) (h : CtrOk F O J G R D I) (hs : 0 ≤ s ∧ s ≤ 1000000) (hd : -1000000000000000 ≤ d ∧ d ≤ 1000000000000000) :
    Calls Try.prog 43 #[.agg #[.int .i64 F, .int .i64 O, .int .i64 J, .int .i64 G, .int .i64 R, .int .i64 D, .int .i64 I], .int .u64 seed, .int .i64 s, .int .i64 d] w fun e w' => e = .returned (.int .i64 (showF F O J G R I seed s d)) ∧ Below w.heap.size w w' := by
  have hv := Below.refl w.heap.size w
  obtain ⟨hfd, hraw⟩ := raw_bound (seed := seed) (s := s) h hd
  have hf := h.f; have ho := h.o; have hj := h.j; have hg := h.g; have hr := h.r; have hi := h.i
  have hdr := drawF_range seed 3 I s J hj.1
  have cd := fun w => wdraw_calls seed 3 I s J w (by omega) (by omega) (by omega) (by omega)
  unfold showF
  unfold rawF at hraw ⊢
  generalize drawF seed 3 I s J = j at *
  clear h
  go_enter Try.func43, Try.ntmps43
  go_wp2_with fail
  obtain ⟨w1, hw1⟩ : ∃ w1, w.alloc (.cells #[.int .i64 F, .int .i64 O, .int .i64 J, .int .i64 G, .int .i64 R, .int .i64 D, .int .i64 I] 51) = w1 := ⟨_, rfl⟩
  try rw [hw1]
  have hB : Below w.heap.size w w1 := by rw [← hw1]; exact (Below.refl _ w).alloc (by first | exact Nat.le_refl _ | (simp; done) | (simp; omega)) _
  have kx : w1.heap[w.heap.size]? = some (.cells #[.int .i64 F, .int .i64 O, .int .i64 J, .int .i64 G, .int .i64 R, .int .i64 D, .int .i64 I] 51 (0, 0)) := by rw [← hw1]; exact al_new _ _ _ (by first | rfl | (simp; done) | (simp; omega))
  have x0 : w1.cell? ⟨w.heap.size, 0, none⟩ = some (.int .i64 F) := blk_cell kx 0
  have x1 : w1.cell? ⟨w.heap.size, 1, none⟩ = some (.int .i64 O) := blk_cell kx 1
  have x2 : w1.cell? ⟨w.heap.size, 2, none⟩ = some (.int .i64 J) := blk_cell kx 2
  have x3 : w1.cell? ⟨w.heap.size, 3, none⟩ = some (.int .i64 G) := blk_cell kx 3
  have x4 : w1.cell? ⟨w.heap.size, 4, none⟩ = some (.int .i64 R) := blk_cell kx 4
  have x5 : w1.cell? ⟨w.heap.size, 5, none⟩ = some (.int .i64 D) := blk_cell kx 5
  have x6 : w1.cell? ⟨w.heap.size, 6, none⟩ = some (.int .i64 I) := blk_cell kx 6
  clear kx
  replace hv := hv.trans (hB.mono hv.size)
  clear hB hw1
  refine (cd _).mono ?_
  rintro en w2 ⟨rfl, hB⟩
  replace x0 := cell_on hB x0
  replace x1 := cell_on hB x1
  replace x2 := cell_on hB x2
  replace x3 := cell_on hB x3
  replace x4 := cell_on hB x4
  replace x5 := cell_on hB x5
  replace x6 := cell_on hB x6
  replace hv := hv.trans (hB.mono hv.size)
  clear hB cd
  go_wp2_with fail
  obtain ⟨r, hrr⟩ : ∃ r, F * d + O + j = r := ⟨_, rfl⟩
  rw [hrr] at hraw
  simp only [hrr]
  have hb := round_bound (G := G) (r := r) hg.1
  have hw1 := wr (2 * r) (by omega) (by omega)
  have hw2 := wr (2 * r + G) (by omega) (by omega)
  have hw3 := wr (2 * G) (by omega) (by omega)
  have hw4 := wr ((2 * r + G) / (2 * G) * G) (by omega) (by omega)
  have c1 := fun w => floor_calls (2 * r + G) (2 * G) w (by omega) (by omega)
  have c2 := fun w => wrap_calls F O J G R D I ((2 * r + G) / (2 * G) * G) w hr (by omega)
  have hs1 := World.block_lt_of_cell? _ _ x0
  have hS : ∀ w', Below w2.heap.size w2 w' → ((w'.cell? ⟨w.heap.size, 0, none⟩ = some (.int .i64 F) ∧ w'.cell? ⟨w.heap.size, 1, none⟩ = some (.int .i64 O) ∧ w'.cell? ⟨w.heap.size, 2, none⟩ = some (.int .i64 J) ∧ w'.cell? ⟨w.heap.size, 3, none⟩ = some (.int .i64 G) ∧ w'.cell? ⟨w.heap.size, 4, none⟩ = some (.int .i64 R) ∧ w'.cell? ⟨w.heap.size, 5, none⟩ = some (.int .i64 D) ∧ w'.cell? ⟨w.heap.size, 6, none⟩ = some (.int .i64 I)) ∧ Below w2.heap.size w2 w') := fun w' hB => ⟨⟨cell_on hB x0, cell_on hB x1, cell_on hB x2, cell_on hB x3, cell_on hB x4, cell_on hB x5, cell_on hB x6⟩, hB⟩
  go_region_held3 (fun w' => (w'.cell? ⟨w.heap.size, 0, none⟩ = some (.int .i64 F) ∧ w'.cell? ⟨w.heap.size, 1, none⟩ = some (.int .i64 O) ∧ w'.cell? ⟨w.heap.size, 2, none⟩ = some (.int .i64 J) ∧ w'.cell? ⟨w.heap.size, 3, none⟩ = some (.int .i64 G) ∧ w'.cell? ⟨w.heap.size, 4, none⟩ = some (.int .i64 R) ∧ w'.cell? ⟨w.heap.size, 5, none⟩ = some (.int .i64 D) ∧ w'.cell? ⟨w.heap.size, 6, none⟩ = some (.int .i64 I)) ∧ Below w2.heap.size w2 w') (first | exact hS _ (Below.refl _ _).drew | assumption | (have hh := ‹(_ ∧ _ ∧ _ ∧ _ ∧ _ ∧ _ ∧ _) ∧ Below w2.heap.size w2 _›; exact hS _ (hh.2.trans (hB.mono hh.2.size))))
    (first | (go_at_call 72; refine (c1 _).mono ?_; rintro e w' ⟨rfl, hB⟩) | (go_at_call 49; refine (c2 _).mono ?_; rintro e w' ⟨rfl, hB⟩))
  rename_i hHeld
  have hB := hHeld.2
  clear hHeld hS c1 c2
  rename World => w99
  replace x0 := cell_on hB x0
  replace x1 := cell_on hB x1
  replace x2 := cell_on hB x2
  replace x3 := cell_on hB x3
  replace x4 := cell_on hB x4
  replace x5 := cell_on hB x5
  replace x6 := cell_on hB x6
  replace hv := hv.trans (hB.mono hv.size)
  clear hB
  go_wp2
  go_ret
  exact ⟨by rw [hrr]; rfl, hv⟩
end Go.Proofs.Ytjgnadighdbjlaa.C
