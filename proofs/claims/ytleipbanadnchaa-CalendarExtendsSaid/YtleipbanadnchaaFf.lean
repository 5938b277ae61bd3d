/- CalendarInverse's function returns true for every input. -/
import Derived.OwnWalk
import Derived.Test.YtleipbanadnchaaFe
import Derived.Test.YtleipbanadnchaaFc
import Derived.Test.YtleipbanadnchaaCq
namespace Go.Proofs.Ytleipbanadnchaa.C
open Go.RowKit Go.Shelf Go.Maps Go.Proofs.YtleipbanadnchaaW.PrintWords Go.Proofs.YtleipbanadnchaaW.PrintLast Go.Proofs.YtleipbanadnchaaW.PrintMore
set_option linter.unusedVariables false
set_option linter.unusedSimpArgs false
theorem askE_in {b u s : Int} {l : List (Int × Int)} (hk : checkF b l u = 0) (h0 : 0 ≤ s) (h1 : s < beginF l u) : askE b l u s = 0 ∧ ∃ D, IsDay l u s D := by
  refine ⟨?_, IsDay.exists (checkF_right hk).2.2.2.2.2 h0 h1⟩
  unfold askE
  rw [if_pos hk, if_pos (knowsB_iff.2 ⟨h0, h1⟩)]
theorem askE_out {b u : Int} {l : List (Int × Int)} (hk : checkF b l u = 0) : askE b l u (beginF l u) = 6 := by
  unfold askE
  rw [if_pos hk, if_neg]
  intro h
  have := (knowsB_iff.1 h).2
  omega
set_option maxHeartbeats 8000000 in
set_option maxRecDepth 100000 in
theorem calendarInverse_w.calls (A : Option Addr) (c : Nat) (l : List Int) (wh by_ other : Int) (w : World) (hr : Kd.C (Kd.int .u8) w A l.length l) (hb : ∀ x ∈ l, 0 ≤ x ∧ x ≤ 255) (hlen : l.length ≤ 9223372036854775807) (hw0 : 0 ≤ wh) (hw1 : wh ≤ 255) :
    Calls Try.prog 5 #[.slice A l.length c, .int .u8 wh, .int .i64 by_, .int .i64 other] w fun e w' => e = .returned (.bool true) ∧ Below w.heap.size w w' := by
  have a16 := fun w h => made_calls A c l w h hb hlen
  have HR := Aside0.mk hr
  clear hr hb hlen
  go_enter Try.func5, Try.ntmps5
  go_wp2_with fail
  refine (a16 _ HR.out).mono ?_
  rintro en w1 ⟨⟨b, u, A1, c1, L, rfl, hk, hL, hC⟩, hv⟩
  clear a16 HR
  have hld := last_day hk
  have hbu := beginU hk
  have a17 := fun w h => Total_calls b u A1 c1 L w h
  unfold totalR at a17
  rw [if_pos hk] at a17
  obtain ⟨tot, htot⟩ : ∃ tot, beginF L u = tot := ⟨_, rfl⟩
  rw [htot] at hld hbu a17
  have HK := Aside0.mk hk
  have HT := Aside0.mk htot
  have HLD := Aside0.mk hld
  have ht1 : 1 ≤ tot := hld.1
  have ht2 := hbu.2
  have a18 := fun by_ w h => near_calls b u A1 c1 L tot wh by_ w h hk ht1 ht2 hw0 hw1
  clear hk hld hbu htot
  simp only at a17
  go_wp2_with fail
  obtain ⟨w2, hw2⟩ : ∃ w2, w1.alloc (.cells #[.int .i64 b, .slice A1 L.length c1, .int .i64 u] 28) = w2 := ⟨_, rfl⟩
  try rw [hw2]
  have hB : Below w1.heap.size w1 w2 := by rw [← hw2]; exact (Below.refl _ w1).alloc (Nat.le_refl _) _
  have kx : w2.heap[w1.heap.size]? = some (.cells #[.int .i64 b, .slice A1 L.length c1, .int .i64 u] 28 (0, 0)) := by rw [← hw2]; exact al_new _ _ _ rfl
  have o0 : w2.cell? ⟨w1.heap.size, 0, none⟩ = some (.int .i64 b) := blk_cell kx 0
  have o1 : w2.cell? ⟨w1.heap.size, 1, none⟩ = some (.slice A1 L.length c1) := blk_cell kx 1
  have o2 : w2.cell? ⟨w1.heap.size, 2, none⟩ = some (.int .i64 u) := blk_cell kx 2
  replace hC := Kd.C_below hC hB
  replace hv := hv.trans (hB.mono hv.size)
  clear hB hw2 kx
  refine (a17 _ hC).mono ?_
  rintro en w3 ⟨rfl, hB⟩
  replace o0 := cell_on hB o0
  replace o1 := cell_on hB o1
  replace o2 := cell_on hB o2
  replace hC := Kd.C_below hC hB
  replace hv := hv.trans (hB.mono hv.size)
  clear hB a17
  have dt : decide (tot < 1) = false := decide_eq_false (by omega)
  go_wp2_with fail
  have hS : ∀ w', Below w3.heap.size w3 w' → ((w'.cell? ⟨w1.heap.size, 0, none⟩ = some (.int .i64 b) ∧ w'.cell? ⟨w1.heap.size, 1, none⟩ = some (.slice A1 L.length c1) ∧ w'.cell? ⟨w1.heap.size, 2, none⟩ = some (.int .i64 u)) ∧ Below w3.heap.size w3 w') := fun w' hB => ⟨⟨cell_on hB o0, cell_on hB o1, cell_on hB o2⟩, hB⟩
  go_region_held3 (fun w' => (w'.cell? ⟨w1.heap.size, 0, none⟩ = some (.int .i64 b) ∧ w'.cell? ⟨w1.heap.size, 1, none⟩ = some (.slice A1 L.length c1) ∧ w'.cell? ⟨w1.heap.size, 2, none⟩ = some (.int .i64 u)) ∧ Below w3.heap.size w3 w') (first | exact hS _ (Below.refl _ _).drew | assumption | (have hh := ‹(_ ∧ _ ∧ _) ∧ Below w3.heap.size w3 _›; exact hS _ (hh.2.trans (hB.mono hh.2.size))))
    (first | (go_at_call 18; refine (a18 _ _ (by have hh := ‹(_ ∧ _ ∧ _) ∧ Below w3.heap.size w3 _›; exact Kd.C_below hC hh.2)).mono ?_; rintro e w' ⟨⟨r, rfl, hr0, hr1⟩, hB⟩))
  rename_i wq hBq ra ha0 ha1 hHeld
  have hB' := hHeld.2
  clear hHeld hS hB hBq a18
  replace o0 := cell_on hB' o0
  replace o1 := cell_on hB' o1
  replace o2 := cell_on hB' o2
  replace hC := Kd.C_below hC hB'
  replace hv := hv.trans (hB'.mono hv.size)
  clear hB' dt
  obtain ⟨eA, D, hD⟩ := askE_in (s := ra) HK.out ha0 (by rw [HT.out]; omega)
  obtain ⟨eB, E, hE⟩ := askE_in (s := r) HK.out hr0 (by rw [HT.out]; omega)
  obtain ⟨eL, _⟩ := askE_in (s := tot - 1) HK.out (by omega) (by rw [HT.out]; omega)
  have eT := askE_out HK.out
  rw [HT.out] at eT
  have hR := (checkF_right HK.out).2.2.2.2.2
  have hu := (checkF_right HK.out).2.2.2.1
  have a19 := fun w h => Dates_ok b u A1 c1 L ra D w h eA hD
  have b19 := fun w h => Dates_ok b u A1 c1 L r E w h eB hE
  have c19 := fun w h => Dates_err b u A1 c1 L tot w h (by rw [eT]; decide)
  have hLD := HLD.out.2
  have d19 := fun w h => Dates_ok b u A1 c1 L (tot - 1) (u - 1) w h eL hLD.1
  rw [eT] at c19
  rw [hLD.2.1, hLD.2.2] at d19
  have a20 := fun w h => Seconds_calls b u A1 c1 L (cY D) (cM D) (cD D) (ckH (ra - beginF L D)) (ckM (ra - beginF L D)) (ckS (ra - beginF L D)) w h
  rw [seconds_of_date HK.out hD] at a20
  have a21 := fun w => before_calls (cY D) (cM D) (cD D) (ckH (ra - beginF L D)) (ckM (ra - beginF L D)) (ckS (ra - beginF L D)) (cY E) (cM E) (cD E) (ckH (r - beginF L E)) (ckM (r - beginF L E)) (ckS (r - beginF L E)) w
  have hord := order_of_dates hu hR hD hE
  unfold dateL at hord
  rw [hord] at a21
  clear hord hR hD hE eA eB eL eT hLD hu
  simp only at a20
  generalize ckH (ra - beginF L D) = p3 at *
  generalize ckM (ra - beginF L D) = p4 at *
  generalize ckS (ra - beginF L D) = p5 at *
  generalize ckH (r - beginF L E) = q3 at *
  generalize ckM (r - beginF L E) = q4 at *
  generalize ckS (r - beginF L E) = q5 at *
  generalize ckS (tot - 1 - beginF L (u - 1)) = l5 at *
  generalize cY D = p0 at *
  generalize cM D = p1 at *
  generalize cD D = p2 at *
  generalize cY E = q0 at *
  generalize cM E = q1 at *
  generalize cD E = q2 at *
  generalize cY (u - 1) = l0 at *
  generalize cM (u - 1) = l1 at *
  generalize cD (u - 1) = l2 at *
  have hself : (ra == ra) = true := by simp
  rename World => w4
  go_wp2_with fail
  refine (a19 _ hC).mono ?_
  rintro en w5 ⟨rfl, hB⟩
  replace o0 := cell_on hB o0
  replace o1 := cell_on hB o1
  replace o2 := cell_on hB o2
  replace hC := Kd.C_below hC hB
  replace hv := hv.trans (hB.mono hv.size)
  clear hB
  have hzo0 := World.block_lt_of_cell? _ _ o0
  simp only at hzo0
  go_wp2_with fail
  obtain ⟨w6, hw6⟩ : ∃ w6, w5.alloc (.cells #[.int .i64 p0, .int .i64 p1, .int .i64 p2, .int .i64 p3, .int .i64 p4, .int .i64 p5] 30) = w6 := ⟨_, rfl⟩
  try rw [hw6]
  have hB : Below w5.heap.size w5 w6 := by rw [← hw6]; exact (Below.refl _ w5).alloc (Nat.le_refl _) _
  have kx : w6.heap[w5.heap.size]? = some (.cells #[.int .i64 p0, .int .i64 p1, .int .i64 p2, .int .i64 p3, .int .i64 p4, .int .i64 p5] 30 (0, 0)) := by rw [← hw6]; exact al_new _ _ _ rfl
  replace o0 := cell_on hB o0
  replace o1 := cell_on hB o1
  replace o2 := cell_on hB o2
  replace hC := Kd.C_below hC hB
  replace hv := hv.trans (hB.mono hv.size)
  have x0 : w6.cell? ⟨w5.heap.size, 0, none⟩ = some (.int .i64 p0) := blk_cell kx 0
  have x1 : w6.cell? ⟨w5.heap.size, 1, none⟩ = some (.int .i64 p1) := blk_cell kx 1
  have x2 : w6.cell? ⟨w5.heap.size, 2, none⟩ = some (.int .i64 p2) := blk_cell kx 2
  have x3 : w6.cell? ⟨w5.heap.size, 3, none⟩ = some (.int .i64 p3) := blk_cell kx 3
  have x4 : w6.cell? ⟨w5.heap.size, 4, none⟩ = some (.int .i64 p4) := blk_cell kx 4
  have x5 : w6.cell? ⟨w5.heap.size, 5, none⟩ = some (.int .i64 p5) := blk_cell kx 5
  clear hB hw6 kx hzo0
  refine (b19 _ hC).mono ?_
  rintro en w7 ⟨rfl, hB⟩
  replace o0 := cell_on hB o0
  replace o1 := cell_on hB o1
  replace o2 := cell_on hB o2
  replace x0 := cell_on hB x0
  replace x1 := cell_on hB x1
  replace x2 := cell_on hB x2
  replace x3 := cell_on hB x3
  replace x4 := cell_on hB x4
  replace x5 := cell_on hB x5
  replace hC := Kd.C_below hC hB
  replace hv := hv.trans (hB.mono hv.size)
  clear hB
  have hzo0 := World.block_lt_of_cell? _ _ o0
  have hzx0 := World.block_lt_of_cell? _ _ x0
  simp only at hzo0 hzx0
  go_wp2_with fail
  obtain ⟨w8, hw8⟩ : ∃ w8, w7.alloc (.cells #[.int .i64 q0, .int .i64 q1, .int .i64 q2, .int .i64 q3, .int .i64 q4, .int .i64 q5] 30) = w8 := ⟨_, rfl⟩
  try rw [hw8]
  have hB : Below w7.heap.size w7 w8 := by rw [← hw8]; exact (Below.refl _ w7).alloc (Nat.le_refl _) _
  have kx : w8.heap[w7.heap.size]? = some (.cells #[.int .i64 q0, .int .i64 q1, .int .i64 q2, .int .i64 q3, .int .i64 q4, .int .i64 q5] 30 (0, 0)) := by rw [← hw8]; exact al_new _ _ _ rfl
  replace o0 := cell_on hB o0
  replace o1 := cell_on hB o1
  replace o2 := cell_on hB o2
  replace x0 := cell_on hB x0
  replace x1 := cell_on hB x1
  replace x2 := cell_on hB x2
  replace x3 := cell_on hB x3
  replace x4 := cell_on hB x4
  replace x5 := cell_on hB x5
  replace hC := Kd.C_below hC hB
  replace hv := hv.trans (hB.mono hv.size)
  have y0 : w8.cell? ⟨w7.heap.size, 0, none⟩ = some (.int .i64 q0) := blk_cell kx 0
  have y1 : w8.cell? ⟨w7.heap.size, 1, none⟩ = some (.int .i64 q1) := blk_cell kx 1
  have y2 : w8.cell? ⟨w7.heap.size, 2, none⟩ = some (.int .i64 q2) := blk_cell kx 2
  have y3 : w8.cell? ⟨w7.heap.size, 3, none⟩ = some (.int .i64 q3) := blk_cell kx 3
  have y4 : w8.cell? ⟨w7.heap.size, 4, none⟩ = some (.int .i64 q4) := blk_cell kx 4
  have y5 : w8.cell? ⟨w7.heap.size, 5, none⟩ = some (.int .i64 q5) := blk_cell kx 5
  clear hB hw8 kx hzo0 hzx0
  refine (a20 _ hC).mono ?_
  rintro en w9 ⟨rfl, hB⟩
  replace o0 := cell_on hB o0
  replace o1 := cell_on hB o1
  replace o2 := cell_on hB o2
  replace x0 := cell_on hB x0
  replace x1 := cell_on hB x1
  replace x2 := cell_on hB x2
  replace x3 := cell_on hB x3
  replace x4 := cell_on hB x4
  replace x5 := cell_on hB x5
  replace y0 := cell_on hB y0
  replace y1 := cell_on hB y1
  replace y2 := cell_on hB y2
  replace y3 := cell_on hB y3
  replace y4 := cell_on hB y4
  replace y5 := cell_on hB y5
  replace hC := Kd.C_below hC hB
  replace hv := hv.trans (hB.mono hv.size)
  clear hB
  go_wp2_with fail
  refine (a21 _).mono ?_
  rintro en w10 ⟨rfl, hB⟩
  replace o0 := cell_on hB o0
  replace o1 := cell_on hB o1
  replace o2 := cell_on hB o2
  replace x0 := cell_on hB x0
  replace x1 := cell_on hB x1
  replace x2 := cell_on hB x2
  replace x3 := cell_on hB x3
  replace x4 := cell_on hB x4
  replace x5 := cell_on hB x5
  replace y0 := cell_on hB y0
  replace y1 := cell_on hB y1
  replace y2 := cell_on hB y2
  replace y3 := cell_on hB y3
  replace y4 := cell_on hB y4
  replace y5 := cell_on hB y5
  replace hC := Kd.C_below hC hB
  replace hv := hv.trans (hB.mono hv.size)
  clear hB
  go_wp2_with fail
  refine (c19 _ hC).mono ?_
  rintro en w11 ⟨rfl, hB⟩
  replace o0 := cell_on hB o0
  replace o1 := cell_on hB o1
  replace o2 := cell_on hB o2
  replace x0 := cell_on hB x0
  replace x1 := cell_on hB x1
  replace x2 := cell_on hB x2
  replace x3 := cell_on hB x3
  replace x4 := cell_on hB x4
  replace x5 := cell_on hB x5
  replace y0 := cell_on hB y0
  replace y1 := cell_on hB y1
  replace y2 := cell_on hB y2
  replace y3 := cell_on hB y3
  replace y4 := cell_on hB y4
  replace y5 := cell_on hB y5
  replace hC := Kd.C_below hC hB
  replace hv := hv.trans (hB.mono hv.size)
  clear hB
  go_wp2_with fail
  refine (d19 _ hC).mono ?_
  rintro en w12 ⟨rfl, hB⟩
  replace o0 := cell_on hB o0
  replace o1 := cell_on hB o1
  replace o2 := cell_on hB o2
  replace x0 := cell_on hB x0
  replace x1 := cell_on hB x1
  replace x2 := cell_on hB x2
  replace x3 := cell_on hB x3
  replace x4 := cell_on hB x4
  replace x5 := cell_on hB x5
  replace y0 := cell_on hB y0
  replace y1 := cell_on hB y1
  replace y2 := cell_on hB y2
  replace y3 := cell_on hB y3
  replace y4 := cell_on hB y4
  replace y5 := cell_on hB y5
  replace hC := Kd.C_below hC hB
  replace hv := hv.trans (hB.mono hv.size)
  clear hB
  have hzo0 := World.block_lt_of_cell? _ _ o0
  have hzx0 := World.block_lt_of_cell? _ _ x0
  have hzy0 := World.block_lt_of_cell? _ _ y0
  simp only at hzo0 hzx0 hzy0
  go_wp2_with fail
  have hv13 := hv.alloc hv.size (.cells #[.int .i64 l0, .int .i64 l1, .int .i64 l2, .int .i64 23, .int .i64 59, .int .i64 l5] 30)
  refine (awake_calls _).mono ?_
  rintro en w13 ⟨rfl, hB⟩
  go_wp2
  go_ret
  exact ⟨rfl, hv13.trans (hB.mono (by have := hv.size; simp; omega))⟩
end Go.Proofs.Ytleipbanadnchaa.C
