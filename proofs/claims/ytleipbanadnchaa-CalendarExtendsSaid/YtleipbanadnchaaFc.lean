/- Contracts of before, by hand. -/
import Derived.OwnWalk
import Derived.Deep.RegionWith
import Derived.BigRegion
import Derived.Test.YtleipbanadnchaaFb
namespace Go.Proofs.Ytleipbanadnchaa.C
open Go.RowKit Go.Shelf Go.Maps Go.Proofs.YtleipbanadnchaaW.PrintWords Go.Proofs.YtleipbanadnchaaW.PrintLast Go.Proofs.YtleipbanadnchaaW.PrintMore
set_option linter.unusedVariables false
set_option linter.unusedSimpArgs false
theorem slice110 (b : Nat) (w : World) : (Instr.sliceAt 110 (.pointer (some ⟨b, 0, none⟩)) none none none).run Try.prog w = .ok (.slice (some ⟨b, 0, none⟩) 6 6) w := by
  have e : Try.prog.arrayLen 110 = 6 := by kernel_rfl
  have el : Try.prog.elem 110 = 3 := by kernel_rfl
  have ht : Try.prog.underlying 110 = some (.array (Try.prog.arrayLen 110) (Try.prog.elem 110)) := by rw [e, el]; exact Try.underlying110
  have := run_sliceAt_array_all (P := Try.prog) w 110 ⟨b, 0, none⟩ ht
  rw [this, e, el]
  simp [go_sem]
theorem C_six {w : World} {g : Nat} {x0 x1 x2 x3 x4 x5 : Int} (h : w.heap[g]? = some (.cells #[.int .i64 x0, .int .i64 x1, .int .i64 x2, .int .i64 x3, .int .i64 x4, .int .i64 x5] 110 (0, 0))) : Kd.C (Kd.int .i64) w (some ⟨g, 0, none⟩) 6 [x0, x1, x2, x3, x4, x5] := by
  refine ⟨rfl, by decide, fun _ => ⟨_, rfl, fun j p hj => ?_⟩⟩
  have hlt := (List.getElem?_eq_some_iff.1 hj).1
  have h2 : j = 0 ∨ j = 1 ∨ j = 2 ∨ j = 3 ∨ j = 4 ∨ j = 5 := by simp at hlt; omega
  refine ⟨[.int .i64 p], rfl, rfl, fun i u hu => ?_⟩
  have hi := (List.getElem?_eq_some_iff.1 hu).1
  obtain rfl : i = 0 := by simp at hi; omega
  obtain rfl := Option.some.inj hu
  rcases h2 with rfl | rfl | rfl | rfl | rfl | rfl
  · obtain rfl := Option.some.inj hj; exact blk_cell h 0
  · obtain rfl := Option.some.inj hj; exact blk_cell h 1
  · obtain rfl := Option.some.inj hj; exact blk_cell h 2
  · obtain rfl := Option.some.inj hj; exact blk_cell h 3
  · obtain rfl := Option.some.inj hj; exact blk_cell h 4
  · obtain rfl := Option.some.inj hj; exact blk_cell h 5
set_option maxHeartbeats 4000000 in
set_option maxRecDepth 100000 in
theorem before_calls (x0 x1 x2 x3 x4 x5 y0 y1 y2 y3 y4 y5 : Int) (w : World) :
    Calls Try.prog 21 #[dateV x0 x1 x2 x3 x4 x5, dateV y0 y1 y2 y3 y4 y5] w fun e w' => e = .returned (.bool (decide (cmpF [x0, x1, x2, x3, x4, x5] [y0, y1, y2, y3, y4, y5] < 0))) ∧ Below w.heap.size w w' := by
  go_enter Try.func21, Try.ntmps21
  go_wp2_with fail
  obtain ⟨w2, hw2⟩ : ∃ w2, (w.alloc (.cells #[.int .i64 x0, .int .i64 x1, .int .i64 x2, .int .i64 x3, .int .i64 x4, .int .i64 x5] 30)).alloc (.cells #[.int .i64 y0, .int .i64 y1, .int .i64 y2, .int .i64 y3, .int .i64 y4, .int .i64 y5] 30) = w2 := ⟨_, rfl⟩
  rw [hw2]
  have hv : Below w.heap.size w w2 := by rw [← hw2]; exact ((Below.refl _ w).alloc (Nat.le_refl _) _).alloc (by simp) _
  have kx : w2.heap[w.heap.size]? = some (.cells #[.int .i64 x0, .int .i64 x1, .int .i64 x2, .int .i64 x3, .int .i64 x4, .int .i64 x5] 30 (0, 0)) := by rw [← hw2]; exact al_old (al_new _ _ _ rfl)
  have ky : w2.heap[w.heap.size + 1]? = some (.cells #[.int .i64 y0, .int .i64 y1, .int .i64 y2, .int .i64 y3, .int .i64 y4, .int .i64 y5] 30 (0, 0)) := by rw [← hw2]; exact al_new _ _ _ (by simp)
  have a0 : w2.cell? ⟨w.heap.size, 0, none⟩ = some (.int .i64 x0) := blk_cell kx 0
  have a1 : w2.cell? ⟨w.heap.size, 1, none⟩ = some (.int .i64 x1) := blk_cell kx 1
  have a2 : w2.cell? ⟨w.heap.size, 2, none⟩ = some (.int .i64 x2) := blk_cell kx 2
  have a3 : w2.cell? ⟨w.heap.size, 3, none⟩ = some (.int .i64 x3) := blk_cell kx 3
  have a4 : w2.cell? ⟨w.heap.size, 4, none⟩ = some (.int .i64 x4) := blk_cell kx 4
  have a5 : w2.cell? ⟨w.heap.size, 5, none⟩ = some (.int .i64 x5) := blk_cell kx 5
  have b0 : w2.cell? ⟨w.heap.size + 1, 0, none⟩ = some (.int .i64 y0) := blk_cell ky 0
  have b1 : w2.cell? ⟨w.heap.size + 1, 1, none⟩ = some (.int .i64 y1) := blk_cell ky 1
  have b2 : w2.cell? ⟨w.heap.size + 1, 2, none⟩ = some (.int .i64 y2) := blk_cell ky 2
  have b3 : w2.cell? ⟨w.heap.size + 1, 3, none⟩ = some (.int .i64 y3) := blk_cell ky 3
  have b4 : w2.cell? ⟨w.heap.size + 1, 4, none⟩ = some (.int .i64 y4) := blk_cell ky 4
  have b5 : w2.cell? ⟨w.heap.size + 1, 5, none⟩ = some (.int .i64 y5) := blk_cell ky 5
  have hsz : w2.heap.size = w.heap.size + 2 := by rw [← hw2]; simp
  have hS : ∀ w', Below w2.heap.size w2 w' → ((w'.cell? ⟨w.heap.size, 0, none⟩ = some (.int .i64 x0) ∧ w'.cell? ⟨w.heap.size, 1, none⟩ = some (.int .i64 x1) ∧ w'.cell? ⟨w.heap.size, 2, none⟩ = some (.int .i64 x2) ∧ w'.cell? ⟨w.heap.size, 3, none⟩ = some (.int .i64 x3) ∧ w'.cell? ⟨w.heap.size, 4, none⟩ = some (.int .i64 x4) ∧ w'.cell? ⟨w.heap.size, 5, none⟩ = some (.int .i64 x5) ∧ w'.cell? ⟨w.heap.size + 1, 0, none⟩ = some (.int .i64 y0) ∧ w'.cell? ⟨w.heap.size + 1, 1, none⟩ = some (.int .i64 y1) ∧ w'.cell? ⟨w.heap.size + 1, 2, none⟩ = some (.int .i64 y2) ∧ w'.cell? ⟨w.heap.size + 1, 3, none⟩ = some (.int .i64 y3) ∧ w'.cell? ⟨w.heap.size + 1, 4, none⟩ = some (.int .i64 y4) ∧ w'.cell? ⟨w.heap.size + 1, 5, none⟩ = some (.int .i64 y5)) ∧ Below w2.heap.size w2 w') := fun w' hB => ⟨⟨cell_on hB a0, cell_on hB a1, cell_on hB a2, cell_on hB a3, cell_on hB a4, cell_on hB a5, cell_on hB b0, cell_on hB b1, cell_on hB b2, cell_on hB b3, cell_on hB b4, cell_on hB b5⟩, hB⟩
  clear hw2 kx ky
  go_region_held3 (fun w' => (w'.cell? ⟨w.heap.size, 0, none⟩ = some (.int .i64 x0) ∧ w'.cell? ⟨w.heap.size, 1, none⟩ = some (.int .i64 x1) ∧ w'.cell? ⟨w.heap.size, 2, none⟩ = some (.int .i64 x2) ∧ w'.cell? ⟨w.heap.size, 3, none⟩ = some (.int .i64 x3) ∧ w'.cell? ⟨w.heap.size, 4, none⟩ = some (.int .i64 x4) ∧ w'.cell? ⟨w.heap.size, 5, none⟩ = some (.int .i64 x5) ∧ w'.cell? ⟨w.heap.size + 1, 0, none⟩ = some (.int .i64 y0) ∧ w'.cell? ⟨w.heap.size + 1, 1, none⟩ = some (.int .i64 y1) ∧ w'.cell? ⟨w.heap.size + 1, 2, none⟩ = some (.int .i64 y2) ∧ w'.cell? ⟨w.heap.size + 1, 3, none⟩ = some (.int .i64 y3) ∧ w'.cell? ⟨w.heap.size + 1, 4, none⟩ = some (.int .i64 y4) ∧ w'.cell? ⟨w.heap.size + 1, 5, none⟩ = some (.int .i64 y5)) ∧ Below w2.heap.size w2 w') (first | (with_reducible exact hS _ (Below.refl _ _).drew) | (with_reducible assumption) | exact hS _ (by repeat (first | exact Below.refl _ _ | apply below_alloc | apply pw_below_drewN | apply below_drew1 | (refine below_set ?_ ?_; rotate_left; (simp; done)))))
    (fail)
  · obtain ⟨w3, hw3⟩ : ∃ w3, ((w2.alloc (.cells #[.int .i64 x0, .int .i64 x1, .int .i64 x2, .int .i64 x3, .int .i64 x4, .int .i64 x5] 110)).alloc (.cells #[.int .i64 y0, .int .i64 y1, .int .i64 y2, .int .i64 y3, .int .i64 y4, .int .i64 y5] 110)).drew = w3 := ⟨_, rfl⟩
    rw [hw3]
    have hv3 : Below w.heap.size w w3 := by rw [← hw3]; exact ((hv.alloc (by omega) _).alloc (by simp; omega) _).drew
    have k0 : w3.heap[w.heap.size + 2]? = some (.cells #[.int .i64 x0, .int .i64 x1, .int .i64 x2, .int .i64 x3, .int .i64 x4, .int .i64 x5] 110 (0, 0)) := by rw [← hw3]; exact al_old (al_new _ _ _ (by omega))
    have k1 : w3.heap[w.heap.size + 2 + 1]? = some (.cells #[.int .i64 y0, .int .i64 y1, .int .i64 y2, .int .i64 y3, .int .i64 y4, .int .i64 y5] 110 (0, 0)) := by rw [← hw3]; exact al_new _ _ _ (by simp; omega)
    have a68 := fun w' (h : Below w3.heap.size w3 w') => compare_calls (some ⟨w.heap.size + 2, 0, none⟩) (some ⟨w.heap.size + 2 + 1, 0, none⟩) 6 6 [x0, x1, x2, x3, x4, x5] [y0, y1, y2, y3, y4, y5] w' (Kd.C_below (C_six k0) h) (Kd.C_below (C_six k1) h) rfl (by simp)
    have hs0 := slice110 (w.heap.size + 2)
    have hs1 := slice110 (w.heap.size + 2 + 1)
    have g0 : w3.cell? ⟨w.heap.size + 2, 0, none⟩ = some (.int .i64 x0) := blk_cell k0 0
    have hS3 : ∀ w', Below w3.heap.size w3 w' → ((w'.cell? ⟨w.heap.size + 2, 0, none⟩ = some (.int .i64 x0) ∧ True) ∧ Below w3.heap.size w3 w') := fun w' hB => ⟨⟨cell_on hB g0, trivial⟩, hB⟩
    clear hw3 hS a0 a1 a2 a3 a4 a5 b0 b1 b2 b3 b4 b5
    go_wp2_with fail
    go_region_held3 (fun w' => (w'.cell? ⟨w.heap.size + 2, 0, none⟩ = some (.int .i64 x0) ∧ True) ∧ Below w3.heap.size w3 w') (first | exact hS3 _ (Below.refl _ _).drew | assumption)
      (first | (go_at_call 68; refine (a68 _ (by have hh := ‹(_ ∧ True) ∧ Below w3.heap.size w3 _›; exact hh.2)).mono ?_; rintro e w' ⟨rfl, rfl⟩))
    rename_i hHeld2
    have hV := hHeld2.2
    try go_wp2
    go_ret
    exact ⟨rfl, hv3.trans (hV.mono hv3.size)⟩
  · obtain ⟨w3, hw3⟩ : ∃ w3, ((w2.alloc (.cells #[.int .i64 y0, .int .i64 y1, .int .i64 y2, .int .i64 y3, .int .i64 y4, .int .i64 y5] 110)).alloc (.cells #[.int .i64 x0, .int .i64 x1, .int .i64 x2, .int .i64 x3, .int .i64 x4, .int .i64 x5] 110)).drew = w3 := ⟨_, rfl⟩
    rw [hw3]
    have hv3 : Below w.heap.size w w3 := by rw [← hw3]; exact ((hv.alloc (by omega) _).alloc (by simp; omega) _).drew
    have k0 : w3.heap[w.heap.size + 2]? = some (.cells #[.int .i64 y0, .int .i64 y1, .int .i64 y2, .int .i64 y3, .int .i64 y4, .int .i64 y5] 110 (0, 0)) := by rw [← hw3]; exact al_old (al_new _ _ _ (by omega))
    have k1 : w3.heap[w.heap.size + 2 + 1]? = some (.cells #[.int .i64 x0, .int .i64 x1, .int .i64 x2, .int .i64 x3, .int .i64 x4, .int .i64 x5] 110 (0, 0)) := by rw [← hw3]; exact al_new _ _ _ (by simp; omega)
    have a68 := fun w' (h : Below w3.heap.size w3 w') => compare_calls (some ⟨w.heap.size + 2 + 1, 0, none⟩) (some ⟨w.heap.size + 2, 0, none⟩) 6 6 [x0, x1, x2, x3, x4, x5] [y0, y1, y2, y3, y4, y5] w' (Kd.C_below (C_six k1) h) (Kd.C_below (C_six k0) h) rfl (by simp)
    have hs0 := slice110 (w.heap.size + 2)
    have hs1 := slice110 (w.heap.size + 2 + 1)
    have g0 : w3.cell? ⟨w.heap.size + 2, 0, none⟩ = some (.int .i64 y0) := blk_cell k0 0
    have hS3 : ∀ w', Below w3.heap.size w3 w' → ((w'.cell? ⟨w.heap.size + 2, 0, none⟩ = some (.int .i64 y0) ∧ True) ∧ Below w3.heap.size w3 w') := fun w' hB => ⟨⟨cell_on hB g0, trivial⟩, hB⟩
    clear hw3 hS a0 a1 a2 a3 a4 a5 b0 b1 b2 b3 b4 b5
    go_wp2_with fail
    go_region_held3 (fun w' => (w'.cell? ⟨w.heap.size + 2, 0, none⟩ = some (.int .i64 y0) ∧ True) ∧ Below w3.heap.size w3 w') (first | exact hS3 _ (Below.refl _ _).drew | assumption)
      (first | (go_at_call 68; refine (a68 _ (by have hh := ‹(_ ∧ True) ∧ Below w3.heap.size w3 _›; exact hh.2)).mono ?_; rintro e w' ⟨rfl, rfl⟩))
    rename_i hHeld2
    have hV := hHeld2.2
    try go_wp2
    go_ret
    exact ⟨rfl, hv3.trans (hV.mono hv3.size)⟩
end Go.Proofs.Ytleipbanadnchaa.C
