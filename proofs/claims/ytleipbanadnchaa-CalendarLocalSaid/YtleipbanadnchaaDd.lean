/- Contracts of calendar.date and Dates, by hand. -/
import Derived.OwnWalk
import Derived.Test.YtleipbanadnchaaDc
import Derived.Test.YtleipbanadnchaaCn
namespace Go.Proofs.Ytleipbanadnchaa.C
open Go.RowKit Go.Shelf Go.Maps Go.Proofs.YtleipbanadnchaaW.PrintWords Go.Proofs.YtleipbanadnchaaW.PrintLast Go.Proofs.YtleipbanadnchaaW.PrintMore
set_option linter.unusedVariables false
set_option linter.unusedSimpArgs false
theorem info30 : (Try.prog.info? 30).map (·.size) = some 6 := by kernel_rfl
set_option maxHeartbeats 2000000 in
set_option maxRecDepth 100000 in
theorem date_calls (kb : Nat) (b u : Int) (A : Option Addr) (c : Nat) (l : List (Int × Int)) (s D : Int) (w : World) (hc : CtAt w kb b A c u l) (hk : checkF b l u = 0) (hD : IsDay l u s D) :
    Calls Try.prog 66 #[.pointer (some ⟨kb, 0, none⟩), .int .i64 s] w fun e w' => e = .returned (dateV (cY D) (cM D) (cD D) (ckH (s - beginF l D)) (ckM (s - beginF l D)) (ckS (s - beginF l D))) ∧ Below w.heap.size w w' := by
  obtain ⟨h1, h2, h3, h4, h5, h6⟩ := checkF_right hk
  have a84 := fun w hc => split_calls kb b u A c l s D w hc hk hD
  have hn := h6.next D
  have hlo := hD.lo
  have hhi := hD.hi
  have a85 := fun w => civil_calls D hD.d0 (by have := hD.d1; omega) w
  have a116 := fun w => clock_calls (.pointer (some ⟨kb, 0, none⟩)) D (s - beginF l D) (by omega) (by omega) w
  have HC := Aside0.mk hc
  clear hc hk hD hn hlo hhi h6
  generalize s - beginF l D = n at *
  generalize cY D = Y at *
  generalize cM D = M at *
  generalize cD D = K at *
  generalize ckH n = H at *
  generalize ckM n = I at *
  generalize ckS n = S at *
  go_enter Try.func66, Try.ntmps66
  go_wp2_with fail
  refine (a84 _ (HC.out.below ((Below.refl _ w).alloc (Nat.le_refl _) _))).mono ?_
  rintro en w1 ⟨rfl, hB⟩
  have hv : Below w.heap.size w w1 := ((Below.refl _ w).alloc (Nat.le_refl _) _).trans (hB.mono (by simp))
  have kr : w1.heap[w.heap.size]? = some (.cells #[.int .i64 0, .int .i64 0, .int .i64 0, .int .i64 0, .int .i64 0, .int .i64 0] 30 (0, 0)) := (hB.block _ (by simp)).trans (al_new _ _ _ rfl)
  clear hB a84
  go_wp2_with fail
  refine (a85 _).mono ?_
  rintro en w2 ⟨rfl, hB⟩
  have hv2 : Below w.heap.size w w2 := (hv.alloc hv.size _).trans (hB.mono (by have := hv.size; simp; omega))
  have kd : w2.heap[w1.heap.size]? = some (.cells #[.int .i64 0, .int .i64 0, .int .i64 0, .int .i64 0, .int .i64 0, .int .i64 0] 30 (0, 0)) := (hB.block _ (by simp)).trans (al_new _ _ _ rfl)
  have kr2 : w2.heap[w.heap.size]? = some (.cells #[.int .i64 0, .int .i64 0, .int .i64 0, .int .i64 0, .int .i64 0, .int .i64 0] 30 (0, 0)) := (hB.block _ (by have := (Array.getElem?_eq_some_iff.1 kr).1; simp; omega)).trans (al_old kr)
  have hs1 : w.heap.size < w1.heap.size := (Array.getElem?_eq_some_iff.1 kr).1
  clear hB a85 kr
  have f0 := blk_frozen kd 0
  have f1 := blk_frozen kd 1
  have f2 := blk_frozen kd 2
  have c0 : w2.cell? ⟨w1.heap.size, 0, none⟩ = some (.int .i64 0) := blk_cell kd 0
  have c1 : w2.cell? ⟨w1.heap.size, 1, none⟩ = some (.int .i64 0) := blk_cell kd 1
  have c2 : w2.cell? ⟨w1.heap.size, 2, none⟩ = some (.int .i64 0) := blk_cell kd 2
  go_wp2_with fail
  refine (a116 _).mono ?_
  rintro en w3 ⟨rfl, hw3⟩
  have k3 : w3.heap[w1.heap.size]? = some (.cells #[.int .i64 Y, .int .i64 M, .int .i64 K, .int .i64 0, .int .i64 0, .int .i64 0] 30 (0, 0)) := by rw [hw3]; exact blk_put (blk_put (blk_put kd 0 _ rfl) 1 _ rfl) 2 _ rfl
  have kr3 : w3.heap[w.heap.size]? = some (.cells #[.int .i64 0, .int .i64 0, .int .i64 0, .int .i64 0, .int .i64 0, .int .i64 0] 30 (0, 0)) := by rw [hw3]; exact blk_far (blk_far (blk_far kr2 (by simp; omega) _) (by simp; omega) _) (by simp; omega) _
  have hv3 : Below w.heap.size w w3 := by rw [hw3]; exact ((hv2.setCell (by simp; omega) _).setCell (by simp; omega) _).setCell (by simp; omega) _
  clear hw3 kd kr2 hv2 f0 f1 f2 c0 c1 c2 a116 hv
  have f3 := blk_frozen k3 3
  have f4 := blk_frozen k3 4
  have f5 := blk_frozen k3 5
  have c0 : w3.cell? ⟨w1.heap.size, 0, none⟩ = some (.int .i64 Y) := blk_cell k3 0
  have c1 : w3.cell? ⟨w1.heap.size, 1, none⟩ = some (.int .i64 M) := blk_cell k3 1
  have c2 : w3.cell? ⟨w1.heap.size, 2, none⟩ = some (.int .i64 K) := blk_cell k3 2
  have c3 : w3.cell? ⟨w1.heap.size, 3, none⟩ = some (.int .i64 0) := blk_cell k3 3
  have c4 : w3.cell? ⟨w1.heap.size, 4, none⟩ = some (.int .i64 0) := blk_cell k3 4
  have c5 : w3.cell? ⟨w1.heap.size, 5, none⟩ = some (.int .i64 0) := blk_cell k3 5
  have r0 : w3.cell? ⟨w.heap.size, 0, none⟩ = some (.int .i64 0) := blk_cell kr3 0
  have r1 : w3.cell? ⟨w.heap.size, 1, none⟩ = some (.int .i64 0) := blk_cell kr3 1
  have r2 : w3.cell? ⟨w.heap.size, 2, none⟩ = some (.int .i64 0) := blk_cell kr3 2
  have r3 : w3.cell? ⟨w.heap.size, 3, none⟩ = some (.int .i64 0) := blk_cell kr3 3
  have r4 : w3.cell? ⟨w.heap.size, 4, none⟩ = some (.int .i64 0) := blk_cell kr3 4
  have r5 : w3.cell? ⟨w.heap.size, 5, none⟩ = some (.int .i64 0) := blk_cell kr3 5
  have z0 := blk_frozen kr3 0
  have z1 := blk_frozen kr3 1
  have z2 := blk_frozen kr3 2
  have z3 := blk_frozen kr3 3
  have z4 := blk_frozen kr3 4
  have z5 := blk_frozen kr3 5
  have hne : w.heap.size ≠ w1.heap.size := by omega
  go_wp2
  exact bodyPost_ret (results_cell_row rfl _ _ w.heap.size 30 #[.int .i64 Y, .int .i64 M, .int .i64 K, .int .i64 H, .int .i64 I, .int .i64 S] (0, 0) _ rfl
      (blk_put (blk_put (blk_put (blk_put (blk_put (blk_put (blk_far (blk_far (blk_far kr3 (by simp; omega) _) (by simp; omega) _) (by simp; omega) _) 0 _ rfl) 1 _ rfl) 2 _ rfl) 3 _ rfl) 4 _ rfl) 5 _ rfl) Try.underlying30 rfl info30) rfl
    ⟨rfl, ((((((((hv3.setCell (by simp; omega) _).setCell (by simp; omega) _).setCell (by simp; omega) _).setCell (by simp) _).setCell (by simp) _).setCell (by simp) _).setCell (by simp) _).setCell (by simp) _).setCell (by simp) _⟩
end Go.Proofs.Ytleipbanadnchaa.C
