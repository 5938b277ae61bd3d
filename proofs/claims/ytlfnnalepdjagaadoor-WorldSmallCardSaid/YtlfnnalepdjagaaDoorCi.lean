/- WorldShows: the law's walk. -/
import Derived.OwnWalk
import Derived.BigRegion
import Derived.Test.YtlfnnalepdjagaaDoorWX
import Derived.Deep.RegionHeld3
import Derived.Test.YtlfnnalepdjagaaDoorBi
import Derived.Test.YtlfnnalepdjagaaDoorKa
import Derived.Test.YtlfnnalepdjagaaDoorCh
namespace Go.Proofs.YtlfnnalepdjagaaDoor.C
open Go.RowKit Go.Shelf Go.Maps Go.Proofs.YtlfnnalepdjagaaDoorW.PrintWords Go.Proofs.YtlfnnalepdjagaaDoorW.PrintLast Go.Proofs.YtlfnnalepdjagaaDoorW.PrintMore
set_option linter.unusedVariables false
set_option linter.unusedSimpArgs false
theorem eqA65 (d : Nat) (w : World) (x0 y0 x1 y1 : Int) :
    (Op.equalIn (d + 2) 65 (.agg #[.int .i64 x0, .int .i64 x1]) (.agg #[.int .i64 y0, .int .i64 y1])).run Tryd.prog w = .ok (x0 == y0 && (x1 == y1)) w := by
  refine eqA_of Tryd.underlying65 (by kernel_rfl) ?_
  refine eqf_cons (by rfl) (by go_simp; rfl) (by go_simp; rfl) (by go_simp) ?_
  exact eqf_last (by rfl) (by go_simp; rfl) (by go_simp; rfl) (by go_simp)
attribute [local go_sem high] eqA65
theorem eqA69 (d : Nat) (w : World) (x0 y0 x1 y1 : Int) :
    (Op.equalIn (d + 2) 69 (.agg #[.int .i64 x0, .int .i64 x1]) (.agg #[.int .i64 y0, .int .i64 y1])).run Tryd.prog w = .ok (x0 == y0 && (x1 == y1)) w := by
  refine eqA_of Tryd.underlying69 (by kernel_rfl) ?_
  refine eqf_cons (by rfl) (by go_simp; rfl) (by go_simp; rfl) (by go_simp) ?_
  exact eqf_last (by rfl) (by go_simp; rfl) (by go_simp; rfl) (by go_simp)
attribute [local go_sem high] eqA69
set_option maxHeartbeats 4000000 in
set_option maxRecDepth 100000 in
theorem worldShows_main (sd : Int) (Ah : Option Addr) (hc : Nat) (Ak : Option Addr) (kc : Nat) (chs : List T3) (cks : List Ck) (k s : Int) (w : World) (hL : Lim w) (hW : WAt 90 w Ah Ak chs cks) (hwf : WfK cks) :
    Calls Tryd.prog 6 #[woV sd Ah chs.length hc Ak cks.length kc, .int .i64 k, .int .i64 s] w fun e w' => e = .returned (.bool true) ∧ Below w.heap.size w w' := by
  have hv := Below.refl w.heap.size w
  have aw := fun W (hB : Below w.heap.size w W) => awake_calls W (hL.below hB)
  have c10 := fun W (hB : Below w.heap.size w W) => Big_calls sd Ah hc Ak kc chs cks W (hW.below hB)
  by_cases hbig : bigF chs cks = true
  · rw [hbig] at c10
    clear hL hW hwf hbig
    go_enter Tryd.func6, Tryd.ntmps6
    go_wp2_with fail
    obtain ⟨w1, hw1⟩ : ∃ w1, w.alloc (.cells #[.int .u64 sd, .slice Ah chs.length hc, .slice Ak cks.length kc] 26) = w1 := ⟨_, rfl⟩
    try rw [hw1]
    have hB : Below w.heap.size w w1 := by rw [← hw1]; exact (Below.refl _ w).alloc (by first | exact Nat.le_refl _ | (simp; done) | (simp; omega)) _
    have kx : w1.heap[w.heap.size]? = some (.cells #[.int .u64 sd, .slice Ah chs.length hc, .slice Ak cks.length kc] 26 (0, 0)) := by rw [← hw1]; exact al_new _ _ _ (by first | rfl | (simp; done) | (simp; omega))
    have x0 : w1.cell? ⟨w.heap.size, 0, none⟩ = some (.int .u64 sd) := blk_cell kx 0
    have x1 : w1.cell? ⟨w.heap.size, 1, none⟩ = some (.slice Ah chs.length hc) := blk_cell kx 1
    have x2 : w1.cell? ⟨w.heap.size, 2, none⟩ = some (.slice Ak cks.length kc) := blk_cell kx 2
    clear kx
    replace hv := hv.trans (hB.mono hv.size)
    clear hB hw1
    refine (c10 _ hv).mono ?_
    rintro en w2 ⟨rfl, hB⟩
    replace x0 := cell_on hB x0
    replace x1 := cell_on hB x1
    replace x2 := cell_on hB x2
    replace hv := hv.trans (hB.mono hv.size)
    clear hB c10
    clear x0 x1 x2
    go_wp2_with fail
    refine (aw _ hv).mono ?_
    rintro en w3 ⟨rfl, hB⟩
    replace hv := hv.trans (hB.mono hv.size)
    clear hB aw
    go_wp2
    go_ret
    exact ⟨rfl, hv⟩
  · simp only [Bool.not_eq_true] at hbig
    rw [hbig] at c10
    obtain ⟨n1, n2, n3⟩ := big_false hbig
    have c12 := fun W (hB : Below w.heap.size w W) => Own_calls sd Ah hc Ak kc chs cks W (hW.below hB) n1 n2 n3
    have c22 := fun A1 k1 A2 k2 W (hB : Below w.heap.size w W) (hA : WAt 51 W A1 A2 chs cks) => Temperature_calls sd A1 k1 A2 k2 chs cks k s W (hL.below hB) hA hwf
    have c26 := fun A1 k1 A2 k2 W (hB : Below w.heap.size w W) (hA : WAt 51 W A1 A2 chs cks) => Runs_calls sd A1 k1 A2 k2 chs cks k s W (hL.below hB) hA hwf
    have c18 := fun A1 k1 A2 k2 W (hB : Below w.heap.size w W) (hA : WAt 51 W A1 A2 chs cks) => Phase_calls sd A1 k1 A2 k2 chs cks k s W (hL.below hB) hA hwf
    have c21 := fun A1 k1 A2 k2 W (hB : Below w.heap.size w W) (hA : WAt 51 W A1 A2 chs cks) => Shown_calls sd A1 k1 A2 k2 chs cks k s W (hL.below hB) hA hwf
    have c30 := fun A1 k1 A2 k2 W (hB : Below w.heap.size w W) (hA : WAt 51 W A1 A2 chs cks) => Reach_calls sd A1 k1 A2 k2 chs cks k s W (hL.below hB) hA hwf
    have c13 := fun A1 k1 A2 k2 W (hB : Below w.heap.size w W) (hA : WAt 51 W A1 A2 chs cks) => Read_calls sd A1 k1 A2 k2 chs cks k s W (hL.below hB) hA hwf
    have c23 := fun W (hB : Below w.heap.size w W) => rTemperature_calls sd Ah hc Ak kc chs cks k s W (hW.below hB)
    have c27 := fun W (hB : Below w.heap.size w W) => rRuns_calls sd Ah hc Ak kc chs cks k s W (hW.below hB)
    have c28 := fun W (hB : Below w.heap.size w W) => rPhase_calls sd Ah hc Ak kc chs cks k s W (hW.below hB)
    have c29 := fun W (hB : Below w.heap.size w W) => rShown_calls sd Ah hc Ak kc chs cks k s W (hW.below hB)
    have c31 := fun W (hB : Below w.heap.size w W) => rReach_calls sd Ah hc Ak kc chs cks k s W (hW.below hB)
    have c32 := fun W (hB : Below w.heap.size w W) => rRead_calls sd Ah hc Ak kc chs cks k s W (hW.below hB)
    have c24 := fun A1 k1 A2 k2 W (hB : Below w.heap.size w W) (hA : WAt 51 W A1 A2 chs cks) => Check_calls sd A1 k1 A2 k2 chs cks W (hL.below hB) hA hwf
    have c25 := fun W (hB : Below w.heap.size w W) => rCheck_calls sd Ah hc Ak kc chs cks W (hW.below hB)
    have c33 := fun A1 k1 A2 k2 W (hB : Below w.heap.size w W) (hA : WAt 51 W A1 A2 chs cks) => Same_calls sd A1 k1 A2 k2 Ah hc Ak kc chs cks W hA (hW.below hB)
    generalize (if errS chs cks k s = 0 then runsF (ckAt cks k).es s else false) = RB at *
    generalize errS chs cks k s = E at *
    generalize checkW chs cks = CW at *
    generalize tempR chs cks k s = T at *
    obtain ⟨T1, T2⟩ := T
    generalize phaseR sd chs cks k s = P at *
    obtain ⟨P1, P2⟩ := P
    generalize shownR sd chs cks k s = S at *
    obtain ⟨S1, S2⟩ := S
    generalize reachR chs cks k s = R at *
    obtain ⟨⟨R1, R2⟩, R3⟩ := R
    generalize readR sd chs cks k s = M at *
    obtain ⟨⟨M1, M2⟩, M3⟩ := M
    simp only at c22 c23 c18 c28 c21 c29 c30 c31 c13 c32
    clear hbig n1 n2 n3 hL hW hwf
    go_enter Tryd.func6, Tryd.ntmps6
    go_wp2_with fail
    obtain ⟨w1, hw1⟩ : ∃ w1, w.alloc (.cells #[.int .u64 sd, .slice Ah chs.length hc, .slice Ak cks.length kc] 26) = w1 := ⟨_, rfl⟩
    try rw [hw1]
    have hB : Below w.heap.size w w1 := by rw [← hw1]; exact (Below.refl _ w).alloc (by first | exact Nat.le_refl _ | (simp; done) | (simp; omega)) _
    have kx : w1.heap[w.heap.size]? = some (.cells #[.int .u64 sd, .slice Ah chs.length hc, .slice Ak cks.length kc] 26 (0, 0)) := by rw [← hw1]; exact al_new _ _ _ (by first | rfl | (simp; done) | (simp; omega))
    have x0 : w1.cell? ⟨w.heap.size, 0, none⟩ = some (.int .u64 sd) := blk_cell kx 0
    have x1 : w1.cell? ⟨w.heap.size, 1, none⟩ = some (.slice Ah chs.length hc) := blk_cell kx 1
    have x2 : w1.cell? ⟨w.heap.size, 2, none⟩ = some (.slice Ak cks.length kc) := blk_cell kx 2
    clear kx
    replace hv := hv.trans (hB.mono hv.size)
    clear hB hw1
    refine (c10 _ hv).mono ?_
    rintro en w2 ⟨rfl, hB⟩
    replace x0 := cell_on hB x0
    replace x1 := cell_on hB x1
    replace x2 := cell_on hB x2
    replace hv := hv.trans (hB.mono hv.size)
    clear hB c10
    go_wp2_with fail
    refine (c12 _ hv).mono ?_
    rintro en w3 ⟨A1, k1, A2, k2, rfl, hA, hB⟩
    replace x0 := cell_on hB x0
    replace x1 := cell_on hB x1
    replace x2 := cell_on hB x2
    replace hv := hv.trans (hB.mono hv.size)
    clear hB c12
    go_wp2_with fail
    obtain ⟨w4, hw4⟩ : ∃ w4, w3.alloc (.cells #[.int .u64 sd, .slice A1 chs.length k1, .slice A2 cks.length k2] 32) = w4 := ⟨_, rfl⟩
    try rw [hw4]
    have hB : Below w3.heap.size w3 w4 := by rw [← hw4]; exact (Below.refl _ w3).alloc (by first | exact Nat.le_refl _ | (simp; done) | (simp; omega)) _
    have ky : w4.heap[w3.heap.size]? = some (.cells #[.int .u64 sd, .slice A1 chs.length k1, .slice A2 cks.length k2] 32 (0, 0)) := by rw [← hw4]; exact al_new _ _ _ (by first | rfl | (simp; done) | (simp; omega))
    have y0 : w4.cell? ⟨w3.heap.size, 0, none⟩ = some (.int .u64 sd) := blk_cell ky 0
    have y1 : w4.cell? ⟨w3.heap.size, 1, none⟩ = some (.slice A1 chs.length k1) := blk_cell ky 1
    have y2 : w4.cell? ⟨w3.heap.size, 2, none⟩ = some (.slice A2 cks.length k2) := blk_cell ky 2
    clear ky
    replace hA := hA.below hB
    replace x0 := cell_on hB x0
    replace x1 := cell_on hB x1
    replace x2 := cell_on hB x2
    replace hv := hv.trans (hB.mono hv.size)
    clear hB hw4
    refine (c22 _ _ _ _ _ hv hA).mono ?_
    rintro en w5 ⟨rfl, hB⟩
    replace hA := hA.below hB
    replace x0 := cell_on hB x0
    replace x1 := cell_on hB x1
    replace x2 := cell_on hB x2
    replace y0 := cell_on hB y0
    replace y1 := cell_on hB y1
    replace y2 := cell_on hB y2
    replace hv := hv.trans (hB.mono hv.size)
    clear hB c22
    go_wp2_with fail
    refine (c23 _ hv).mono ?_
    rintro en w6 ⟨rfl, hB⟩
    replace hA := hA.below hB
    replace x0 := cell_on hB x0
    replace x1 := cell_on hB x1
    replace x2 := cell_on hB x2
    replace y0 := cell_on hB y0
    replace y1 := cell_on hB y1
    replace y2 := cell_on hB y2
    replace hv := hv.trans (hB.mono hv.size)
    clear hB c23
    go_wp2_with fail
    have hS : ∀ w', Below w6.heap.size w6 w' → ((w'.cell? ⟨w.heap.size, 0, none⟩ = some (.int .u64 sd) ∧ w'.cell? ⟨w.heap.size, 1, none⟩ = some (.slice Ah chs.length hc) ∧ w'.cell? ⟨w.heap.size, 2, none⟩ = some (.slice Ak cks.length kc) ∧ w'.cell? ⟨w3.heap.size, 0, none⟩ = some (.int .u64 sd) ∧ w'.cell? ⟨w3.heap.size, 1, none⟩ = some (.slice A1 chs.length k1) ∧ w'.cell? ⟨w3.heap.size, 2, none⟩ = some (.slice A2 cks.length k2)) ∧ Below w6.heap.size w6 w') := fun w' hB => ⟨⟨cell_on hB x0, cell_on hB x1, cell_on hB x2, cell_on hB y0, cell_on hB y1, cell_on hB y2⟩, hB⟩
    have b24 := fun (W : World) (hB : Below w6.heap.size w6 W) => c24 A1 k1 A2 k2 W (hv.trans (hB.mono hv.size)) (hA.below hB)
    have b25 := fun (W : World) (hB : Below w6.heap.size w6 W) => c25 W (hv.trans (hB.mono hv.size))
    clear c24 c25
    go_region_held3 (fun w' => (w'.cell? ⟨w.heap.size, 0, none⟩ = some (.int .u64 sd) ∧ w'.cell? ⟨w.heap.size, 1, none⟩ = some (.slice Ah chs.length hc) ∧ w'.cell? ⟨w.heap.size, 2, none⟩ = some (.slice Ak cks.length kc) ∧ w'.cell? ⟨w3.heap.size, 0, none⟩ = some (.int .u64 sd) ∧ w'.cell? ⟨w3.heap.size, 1, none⟩ = some (.slice A1 chs.length k1) ∧ w'.cell? ⟨w3.heap.size, 2, none⟩ = some (.slice A2 cks.length k2)) ∧ Below w6.heap.size w6 w') (first | exact hS _ (Below.refl _ _).drew | assumption | (have hh := ‹(_ ∧ _ ∧ _ ∧ _ ∧ _ ∧ _) ∧ Below w6.heap.size w6 _›; exact hS _ (hh.2.trans (hB.mono hh.2.size))))
      (first | (go_at_call 24; (first | (have hh := ‹(_ ∧ _ ∧ _ ∧ _ ∧ _ ∧ _) ∧ Below w6.heap.size w6 _›; with_reducible refine (b24 _ hh.2).mono ?_) | with_reducible refine (b24 _ (Below.refl _ _).drew).mono ?_ | with_reducible refine (b24 _ (Below.refl _ _)).mono ?_); rintro e w' ⟨rfl, hB⟩) | (go_at_call 25; (first | (have hh := ‹(_ ∧ _ ∧ _ ∧ _ ∧ _ ∧ _) ∧ Below w6.heap.size w6 _›; with_reducible refine (b25 _ hh.2).mono ?_) | with_reducible refine (b25 _ (Below.refl _ _).drew).mono ?_ | with_reducible refine (b25 _ (Below.refl _ _)).mono ?_); rintro e w' ⟨rfl, hB⟩))
    rename_i hHeld
    rename World => w8
    have hB := hHeld.2
    clear hHeld hS b24 b25
    replace hA := hA.below hB
    replace x0 := cell_on hB x0
    replace x1 := cell_on hB x1
    replace x2 := cell_on hB x2
    replace y0 := cell_on hB y0
    replace y1 := cell_on hB y1
    replace y2 := cell_on hB y2
    replace hv := hv.trans (hB.mono hv.size)
    clear hB
    go_wp2_with fail
    refine (c26 _ _ _ _ _ hv hA).mono ?_
    rintro en w9 ⟨rfl, hB⟩
    replace hA := hA.below hB
    replace x0 := cell_on hB x0
    replace x1 := cell_on hB x1
    replace x2 := cell_on hB x2
    replace y0 := cell_on hB y0
    replace y1 := cell_on hB y1
    replace y2 := cell_on hB y2
    replace hv := hv.trans (hB.mono hv.size)
    clear hB c26
    go_wp2_with fail
    refine (c27 _ hv).mono ?_
    rintro en w10 ⟨rfl, hB⟩
    replace hA := hA.below hB
    replace x0 := cell_on hB x0
    replace x1 := cell_on hB x1
    replace x2 := cell_on hB x2
    replace y0 := cell_on hB y0
    replace y1 := cell_on hB y1
    replace y2 := cell_on hB y2
    replace hv := hv.trans (hB.mono hv.size)
    clear hB c27
    go_wp2_with fail
    refine (c18 _ _ _ _ _ hv hA).mono ?_
    rintro en w11 ⟨rfl, hB⟩
    replace hA := hA.below hB
    replace x0 := cell_on hB x0
    replace x1 := cell_on hB x1
    replace x2 := cell_on hB x2
    replace y0 := cell_on hB y0
    replace y1 := cell_on hB y1
    replace y2 := cell_on hB y2
    replace hv := hv.trans (hB.mono hv.size)
    clear hB c18
    go_wp2_with fail
    refine (c28 _ hv).mono ?_
    rintro en w12 ⟨rfl, hB⟩
    replace hA := hA.below hB
    replace x0 := cell_on hB x0
    replace x1 := cell_on hB x1
    replace x2 := cell_on hB x2
    replace y0 := cell_on hB y0
    replace y1 := cell_on hB y1
    replace y2 := cell_on hB y2
    replace hv := hv.trans (hB.mono hv.size)
    clear hB c28
    go_wp2_with fail
    refine (c21 _ _ _ _ _ hv hA).mono ?_
    rintro en w13 ⟨rfl, hB⟩
    replace hA := hA.below hB
    replace x0 := cell_on hB x0
    replace x1 := cell_on hB x1
    replace x2 := cell_on hB x2
    replace y0 := cell_on hB y0
    replace y1 := cell_on hB y1
    replace y2 := cell_on hB y2
    replace hv := hv.trans (hB.mono hv.size)
    clear hB c21
    go_wp2_with fail
    refine (c29 _ hv).mono ?_
    rintro en w14 ⟨rfl, hB⟩
    replace hA := hA.below hB
    replace x0 := cell_on hB x0
    replace x1 := cell_on hB x1
    replace x2 := cell_on hB x2
    replace y0 := cell_on hB y0
    replace y1 := cell_on hB y1
    replace y2 := cell_on hB y2
    replace hv := hv.trans (hB.mono hv.size)
    clear hB c29
    go_wp2_with fail
    refine (c30 _ _ _ _ _ hv hA).mono ?_
    rintro en w15 ⟨rfl, hB⟩
    replace hA := hA.below hB
    replace x0 := cell_on hB x0
    replace x1 := cell_on hB x1
    replace x2 := cell_on hB x2
    replace y0 := cell_on hB y0
    replace y1 := cell_on hB y1
    replace y2 := cell_on hB y2
    replace hv := hv.trans (hB.mono hv.size)
    clear hB c30
    go_upto_region 21 with fail
    obtain ⟨w16, hw16⟩ : ∃ w16, w15.alloc (.cells #[.int .i64 R1, .int .i64 R2] 65) = w16 := ⟨_, rfl⟩
    try rw [hw16]
    have hB : Below w15.heap.size w15 w16 := by rw [← hw16]; exact (Below.refl _ w15).alloc (by first | exact Nat.le_refl _ | (simp; done) | (simp; omega)) _
    have kp : w16.heap[w15.heap.size]? = some (.cells #[.int .i64 R1, .int .i64 R2] 65 (0, 0)) := by rw [← hw16]; exact al_new _ _ _ (by first | rfl | (simp; done) | (simp; omega))
    have p0 : w16.cell? ⟨w15.heap.size, 0, none⟩ = some (.int .i64 R1) := blk_cell kp 0
    have p1 : w16.cell? ⟨w15.heap.size, 1, none⟩ = some (.int .i64 R2) := blk_cell kp 1
    clear kp
    replace hA := hA.below hB
    replace x0 := cell_on hB x0
    replace x1 := cell_on hB x1
    replace x2 := cell_on hB x2
    replace y0 := cell_on hB y0
    replace y1 := cell_on hB y1
    replace y2 := cell_on hB y2
    replace hv := hv.trans (hB.mono hv.size)
    clear hB hw16
    go_wp2_with fail
    refine (c31 _ hv).mono ?_
    rintro en w17 ⟨rfl, hB⟩
    replace hA := hA.below hB
    replace x0 := cell_on hB x0
    replace x1 := cell_on hB x1
    replace x2 := cell_on hB x2
    replace y0 := cell_on hB y0
    replace y1 := cell_on hB y1
    replace y2 := cell_on hB y2
    replace p0 := cell_on hB p0
    replace p1 := cell_on hB p1
    replace hv := hv.trans (hB.mono hv.size)
    clear hB c31
    go_upto_region 22 with fail
    obtain ⟨w18, hw18⟩ : ∃ w18, w17.alloc (.cells #[.int .i64 R1, .int .i64 R2] 65) = w18 := ⟨_, rfl⟩
    try rw [hw18]
    have hB : Below w17.heap.size w17 w18 := by rw [← hw18]; exact (Below.refl _ w17).alloc (by first | exact Nat.le_refl _ | (simp; done) | (simp; omega)) _
    have kq : w18.heap[w17.heap.size]? = some (.cells #[.int .i64 R1, .int .i64 R2] 65 (0, 0)) := by rw [← hw18]; exact al_new _ _ _ (by first | rfl | (simp; done) | (simp; omega))
    have q0 : w18.cell? ⟨w17.heap.size, 0, none⟩ = some (.int .i64 R1) := blk_cell kq 0
    have q1 : w18.cell? ⟨w17.heap.size, 1, none⟩ = some (.int .i64 R2) := blk_cell kq 1
    clear kq
    replace hA := hA.below hB
    replace x0 := cell_on hB x0
    replace x1 := cell_on hB x1
    replace x2 := cell_on hB x2
    replace y0 := cell_on hB y0
    replace y1 := cell_on hB y1
    replace y2 := cell_on hB y2
    replace p0 := cell_on hB p0
    replace p1 := cell_on hB p1
    replace hv := hv.trans (hB.mono hv.size)
    clear hB hw18
    go_wp2_with fail
    clear p0 p1 q0 q1
    refine (c13 _ _ _ _ _ hv hA).mono ?_
    rintro en w19 ⟨rfl, hB⟩
    replace hA := hA.below hB
    replace x0 := cell_on hB x0
    replace x1 := cell_on hB x1
    replace x2 := cell_on hB x2
    replace y0 := cell_on hB y0
    replace y1 := cell_on hB y1
    replace y2 := cell_on hB y2
    replace hv := hv.trans (hB.mono hv.size)
    clear hB c13
    go_upto_region 25 with fail
    obtain ⟨w20, hw20⟩ : ∃ w20, w19.alloc (.cells #[.int .i64 M1, .int .i64 M2] 35) = w20 := ⟨_, rfl⟩
    try rw [hw20]
    have hB : Below w19.heap.size w19 w20 := by rw [← hw20]; exact (Below.refl _ w19).alloc (by first | exact Nat.le_refl _ | (simp; done) | (simp; omega)) _
    have km : w20.heap[w19.heap.size]? = some (.cells #[.int .i64 M1, .int .i64 M2] 35 (0, 0)) := by rw [← hw20]; exact al_new _ _ _ (by first | rfl | (simp; done) | (simp; omega))
    have m0 : w20.cell? ⟨w19.heap.size, 0, none⟩ = some (.int .i64 M1) := blk_cell km 0
    have m1 : w20.cell? ⟨w19.heap.size, 1, none⟩ = some (.int .i64 M2) := blk_cell km 1
    clear km
    replace hA := hA.below hB
    replace x0 := cell_on hB x0
    replace x1 := cell_on hB x1
    replace x2 := cell_on hB x2
    replace y0 := cell_on hB y0
    replace y1 := cell_on hB y1
    replace y2 := cell_on hB y2
    replace hv := hv.trans (hB.mono hv.size)
    clear hB hw20
    go_wp2_with fail
    refine (c32 _ hv).mono ?_
    rintro en w21 ⟨rfl, hB⟩
    replace hA := hA.below hB
    replace x0 := cell_on hB x0
    replace x1 := cell_on hB x1
    replace x2 := cell_on hB x2
    replace y0 := cell_on hB y0
    replace y1 := cell_on hB y1
    replace y2 := cell_on hB y2
    replace m0 := cell_on hB m0
    replace m1 := cell_on hB m1
    replace hv := hv.trans (hB.mono hv.size)
    clear hB c32
    go_upto_region 26 with fail
    obtain ⟨w22, hw22⟩ : ∃ w22, w21.alloc (.cells #[.int .i64 M1, .int .i64 M2] 69) = w22 := ⟨_, rfl⟩
    try rw [hw22]
    have hB : Below w21.heap.size w21 w22 := by rw [← hw22]; exact (Below.refl _ w21).alloc (by first | exact Nat.le_refl _ | (simp; done) | (simp; omega)) _
    have kn : w22.heap[w21.heap.size]? = some (.cells #[.int .i64 M1, .int .i64 M2] 69 (0, 0)) := by rw [← hw22]; exact al_new _ _ _ (by first | rfl | (simp; done) | (simp; omega))
    have n0 : w22.cell? ⟨w21.heap.size, 0, none⟩ = some (.int .i64 M1) := blk_cell kn 0
    have n1 : w22.cell? ⟨w21.heap.size, 1, none⟩ = some (.int .i64 M2) := blk_cell kn 1
    clear kn
    replace hA := hA.below hB
    replace x0 := cell_on hB x0
    replace x1 := cell_on hB x1
    replace x2 := cell_on hB x2
    replace y0 := cell_on hB y0
    replace y1 := cell_on hB y1
    replace y2 := cell_on hB y2
    replace m0 := cell_on hB m0
    replace m1 := cell_on hB m1
    replace hv := hv.trans (hB.mono hv.size)
    clear hB hw22
    go_wp2_with fail
    refine (c33 _ _ _ _ _ hv hA).mono ?_
    rintro en w23 ⟨rfl, hB⟩
    replace hA := hA.below hB
    replace x0 := cell_on hB x0
    replace x1 := cell_on hB x1
    replace x2 := cell_on hB x2
    replace y0 := cell_on hB y0
    replace y1 := cell_on hB y1
    replace y2 := cell_on hB y2
    replace m0 := cell_on hB m0
    replace m1 := cell_on hB m1
    replace n0 := cell_on hB n0
    replace n1 := cell_on hB n1
    replace hv := hv.trans (hB.mono hv.size)
    clear hB c33
    go_wp2_with fail
    refine (aw _ hv).mono ?_
    rintro en w24 ⟨rfl, hB⟩
    replace hA := hA.below hB
    replace x0 := cell_on hB x0
    replace x1 := cell_on hB x1
    replace x2 := cell_on hB x2
    replace y0 := cell_on hB y0
    replace y1 := cell_on hB y1
    replace y2 := cell_on hB y2
    replace m0 := cell_on hB m0
    replace m1 := cell_on hB m1
    replace n0 := cell_on hB n0
    replace n1 := cell_on hB n1
    replace hv := hv.trans (hB.mono hv.size)
    clear hB aw
    go_wp2
    go_ret
    exact ⟨rfl, hv⟩
end Go.Proofs.YtlfnnalepdjagaaDoor.C
