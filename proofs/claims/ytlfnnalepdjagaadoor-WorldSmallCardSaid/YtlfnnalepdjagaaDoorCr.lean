/- WorldTracks: the law's walk. -/
import Derived.OwnWalk
import Derived.BigRegion
import Derived.Test.YtlfnnalepdjagaaDoorWX
import Derived.Deep.RegionHeld3
import Derived.Test.YtlfnnalepdjagaaDoorCi
import Derived.Test.YtlfnnalepdjagaaDoorCk
import Derived.Test.YtlfnnalepdjagaaDoorCq
namespace Go.Proofs.YtlfnnalepdjagaaDoor.C
open Go.RowKit Go.Shelf Go.Maps Go.Proofs.YtlfnnalepdjagaaDoorW.PrintWords Go.Proofs.YtlfnnalepdjagaaDoorW.PrintLast Go.Proofs.YtlfnnalepdjagaaDoorW.PrintMore
set_option linter.unusedVariables false
set_option linter.unusedSimpArgs false
attribute [local go_sem high] eqA65
/-- What Back answers, in every way. -/
def BackIs (seed : Int) (chs : List T3) (cks : List Ck) (k mS mF v e : Int) : Prop := if errK chs cks k = 0 then if 0 ≤ mF ∧ mF < 1000000000000000 then IsBack seed chs cks k mS mF v e else v = 0 ∧ e = 1 else v = 0 ∧ e = errK chs cks k
theorem BackIs.eq {seed : Int} {chs : List T3} {cks : List Ck} {k mS mF v e v' e' : Int} (h : BackIs seed chs cks k mS mF v e) (h' : BackIs seed chs cks k mS mF v' e') : v' = v ∧ e' = e := by
  unfold BackIs at h h'
  split at h
  · rename_i h1
    rw [if_pos h1] at h'
    split at h
    · rename_i h2
      rw [if_pos h2] at h'
      exact h'.eq h
    · rename_i h2
      rw [if_neg h2] at h'
      exact ⟨h'.1.trans h.1.symm, h'.2.trans h.2.symm⟩
  · rename_i h1
    rw [if_neg h1] at h'
    exact ⟨h'.1.trans h.1.symm, h'.2.trans h.2.symm⟩
theorem backO (seed : Int) (Ah : Option Addr) (chc : Nat) (Ak : Option Addr) (ckc : Nat) (chs : List T3) (cks : List Ck) (k mS mF : Int) (w : World) (hL : Lim w) (hW : WAt 51 w Ah Ak chs cks) (hwf : WfK cks) (hS : -9223372036854775808 ≤ mS ∧ mS ≤ 9223372036854775807) :
    Calls Tryd.prog 15 #[woV seed Ah chs.length chc Ak cks.length ckc, .int .i64 k, .agg #[.int .i64 mS, .int .i64 mF]] w fun e w' => ∃ v E : Int, e = .returned (.tuple #[.int .i64 v, .int .i64 E]) ∧ BackIs seed chs cks k mS mF v E ∧ Below w.heap.size w w' := by
  unfold BackIs
  by_cases h1 : errK chs cks k = 0
  · simp only [if_pos h1]
    by_cases h2 : 0 ≤ mF ∧ mF < 1000000000000000
    · simp only [if_pos h2]
      refine (Back_ok seed Ah chc Ak ckc chs cks k mS mF w hL hW hwf h1 ((inW_iff _ _ _).2 ⟨h2.1, by omega⟩)).mono ?_
      rintro e w' ⟨r, hr, a1, a2, rfl, hB⟩
      exact ⟨_, _, rfl, isBack_own h1 hS h2 hr a1 a2, hB⟩
    · simp only [if_neg h2]
      refine (Back_bad seed Ah chc Ak ckc chs cks k mS mF w hL hW hwf h1 (by unfold inW; simp; omega)).mono ?_
      rintro e w' ⟨rfl, hB⟩
      exact ⟨_, _, rfl, ⟨rfl, rfl⟩, hB⟩
  · simp only [if_neg h1]
    refine (Back_err seed Ah chc Ak ckc chs cks k mS mF w hL hW hwf h1).mono ?_
    rintro e w' ⟨rfl, hB⟩
    exact ⟨_, _, rfl, ⟨rfl, rfl⟩, hB⟩
theorem backR (seed : Int) (Ah : Option Addr) (chc : Nat) (Ak : Option Addr) (ckc : Nat) (chs : List T3) (cks : List Ck) (k mS mF : Int) (w : World) (hW : WAt 90 w Ah Ak chs cks) (hS : -9223372036854775808 ≤ mS ∧ mS ≤ 9223372036854775807) :
    Calls Tryd.prog 39 #[woV seed Ah chs.length chc Ak cks.length ckc, .int .i64 k, .agg #[.int .i64 mS, .int .i64 mF]] w fun e w' => ∃ v E : Int, e = .returned (.tuple #[.int .i64 v, .int .i64 E]) ∧ BackIs seed chs cks k mS mF v E ∧ Below w.heap.size w w' := by
  unfold BackIs
  by_cases h1 : errK chs cks k = 0
  · simp only [if_pos h1]
    by_cases h2 : 0 ≤ mF ∧ mF < 1000000000000000
    · simp only [if_pos h2]
      exact rBack_ok seed Ah chc Ak ckc chs cks k mS mF w hW h1 h2 hS
    · simp only [if_neg h2]
      refine (rBack_bad seed Ah chc Ak ckc chs cks k mS mF w hW h1 h2).mono ?_
      rintro e w' ⟨rfl, hB⟩
      exact ⟨_, _, rfl, ⟨rfl, rfl⟩, hB⟩
  · simp only [if_neg h1]
    refine (rBack_err seed Ah chc Ak ckc chs cks k mS mF w hW h1).mono ?_
    rintro e w' ⟨rfl, hB⟩
    exact ⟨_, _, rfl, ⟨rfl, rfl⟩, hB⟩
set_option maxHeartbeats 4000000 in
set_option maxRecDepth 100000 in
theorem worldTracks_main (sd : Int) (Ah : Option Addr) (hc : Nat) (Ak : Option Addr) (kc : Nat) (chs : List T3) (cks : List Ck) (k fr st n mS mF : Int) (w : World) (hL : Lim w) (hW : WAt 90 w Ah Ak chs cks) (hwf : WfK cks) (hk : (-9223372036854775808 ≤ k ∧ k ≤ 9223372036854775807)) (hfr : (-9223372036854775808 ≤ fr ∧ fr ≤ 9223372036854775807)) (hst : (-9223372036854775808 ≤ st ∧ st ≤ 9223372036854775807)) (hn : (-9223372036854775808 ≤ n ∧ n ≤ 9223372036854775807)) (hmS : (-9223372036854775808 ≤ mS ∧ mS ≤ 9223372036854775807)) (hmF : (-9223372036854775808 ≤ mF ∧ mF ≤ 9223372036854775807)) :
    Calls Tryd.prog 8 #[woV sd Ah chs.length hc Ak cks.length kc, .int .i64 k, .int .i64 fr, .int .i64 st, .int .i64 n, .agg #[.int .i64 mS, .int .i64 mF]] w fun e w' => e = .returned (.bool true) ∧ Below w.heap.size w w' := by
  have hv := Below.refl w.heap.size w
  have aw := fun W (hB : Below w.heap.size w W) => awake_calls W (hL.below hB)
  have c10 := fun W (hB : Below w.heap.size w W) => Big_calls sd Ah hc Ak kc chs cks W (hW.below hB)
  by_cases hbig : bigF chs cks = true
  · rw [hbig] at c10
    clear hL hW hwf hbig
    go_enter Tryd.func8, Tryd.ntmps8
    go_wp2_with fail
    obtain ⟨w1, hw1⟩ : ∃ w1, (w.alloc (.cells #[.int .u64 sd, .slice Ah chs.length hc, .slice Ak cks.length kc] 26)).alloc (.cells #[.int .i64 mS, .int .i64 mF] 69) = w1 := ⟨_, rfl⟩
    try rw [hw1]
    have hB : Below w.heap.size w w1 := by rw [← hw1]; exact ((Below.refl _ w).alloc (by first | exact Nat.le_refl _ | (simp; done) | (simp; omega)) _).alloc (by first | exact Nat.le_refl _ | (simp; done) | (simp; omega)) _
    have kx : w1.heap[w.heap.size]? = some (.cells #[.int .u64 sd, .slice Ah chs.length hc, .slice Ak cks.length kc] 26 (0, 0)) := by rw [← hw1]; exact al_old (al_new _ _ _ (by first | rfl | (simp; done) | (simp; omega)))
    have x0 : w1.cell? ⟨w.heap.size, 0, none⟩ = some (.int .u64 sd) := blk_cell kx 0
    have x1 : w1.cell? ⟨w.heap.size, 1, none⟩ = some (.slice Ah chs.length hc) := blk_cell kx 1
    have x2 : w1.cell? ⟨w.heap.size, 2, none⟩ = some (.slice Ak cks.length kc) := blk_cell kx 2
    clear kx
    have km : w1.heap[w.heap.size + 1]? = some (.cells #[.int .i64 mS, .int .i64 mF] 69 (0, 0)) := by rw [← hw1]; exact al_new _ _ _ (by first | rfl | (simp; done) | (simp; omega))
    have m0 : w1.cell? ⟨w.heap.size + 1, 0, none⟩ = some (.int .i64 mS) := blk_cell km 0
    have m1 : w1.cell? ⟨w.heap.size + 1, 1, none⟩ = some (.int .i64 mF) := blk_cell km 1
    clear km
    replace hv := hv.trans (hB.mono hv.size)
    clear hB hw1
    refine (c10 _ hv).mono ?_
    rintro en w2 ⟨rfl, hB⟩
    replace x0 := cell_on hB x0
    replace x1 := cell_on hB x1
    replace x2 := cell_on hB x2
    replace m0 := cell_on hB m0
    replace m1 := cell_on hB m1
    replace hv := hv.trans (hB.mono hv.size)
    clear hB c10
    clear x0 x1 x2 m0 m1
    go_wp2_with fail
    refine (aw _ hv).mono ?_
    rintro en w3 ⟨rfl, hB⟩
    replace hv := hv.trans (hB.mono hv.size)
    clear hB aw
    go_wp2
    go_ret
    exact ⟨rfl, hv⟩
  simp only [Bool.not_eq_true] at hbig
  rw [hbig] at c10
  obtain ⟨n1, n2, n3⟩ := big_false hbig
  by_cases h6 : 60 < n ∧ n ≤ 20000
  · have f1 : decide (n > 60) = true := decide_eq_true h6.1
    have f1' : decide (60 < n) = true := decide_eq_true h6.1
    have f2 : decide (n ≤ 20000) = true := decide_eq_true h6.2
    clear hL hW hwf hbig n1 n2 n3 h6
    go_enter Tryd.func8, Tryd.ntmps8
    go_wp2_with fail
    obtain ⟨w1, hw1⟩ : ∃ w1, (w.alloc (.cells #[.int .u64 sd, .slice Ah chs.length hc, .slice Ak cks.length kc] 26)).alloc (.cells #[.int .i64 mS, .int .i64 mF] 69) = w1 := ⟨_, rfl⟩
    try rw [hw1]
    have hB : Below w.heap.size w w1 := by rw [← hw1]; exact ((Below.refl _ w).alloc (by first | exact Nat.le_refl _ | (simp; done) | (simp; omega)) _).alloc (by first | exact Nat.le_refl _ | (simp; done) | (simp; omega)) _
    have kx : w1.heap[w.heap.size]? = some (.cells #[.int .u64 sd, .slice Ah chs.length hc, .slice Ak cks.length kc] 26 (0, 0)) := by rw [← hw1]; exact al_old (al_new _ _ _ (by first | rfl | (simp; done) | (simp; omega)))
    have x0 : w1.cell? ⟨w.heap.size, 0, none⟩ = some (.int .u64 sd) := blk_cell kx 0
    have x1 : w1.cell? ⟨w.heap.size, 1, none⟩ = some (.slice Ah chs.length hc) := blk_cell kx 1
    have x2 : w1.cell? ⟨w.heap.size, 2, none⟩ = some (.slice Ak cks.length kc) := blk_cell kx 2
    clear kx
    have km : w1.heap[w.heap.size + 1]? = some (.cells #[.int .i64 mS, .int .i64 mF] 69 (0, 0)) := by rw [← hw1]; exact al_new _ _ _ (by first | rfl | (simp; done) | (simp; omega))
    have m0 : w1.cell? ⟨w.heap.size + 1, 0, none⟩ = some (.int .i64 mS) := blk_cell km 0
    have m1 : w1.cell? ⟨w.heap.size + 1, 1, none⟩ = some (.int .i64 mF) := blk_cell km 1
    clear km
    replace hv := hv.trans (hB.mono hv.size)
    clear hB hw1
    refine (c10 _ hv).mono ?_
    rintro en w2 ⟨rfl, hB⟩
    replace x0 := cell_on hB x0
    replace x1 := cell_on hB x1
    replace x2 := cell_on hB x2
    replace m0 := cell_on hB m0
    replace m1 := cell_on hB m1
    replace hv := hv.trans (hB.mono hv.size)
    clear hB c10
    clear x0 x1 x2 m0 m1
    go_wp2_with fail
    refine (aw _ hv).mono ?_
    rintro en w3 ⟨rfl, hB⟩
    replace hv := hv.trans (hB.mono hv.size)
    clear hB aw
    go_wp2
    go_ret
    exact ⟨rfl, hv⟩
  have c12 := fun W (hB : Below w.heap.size w W) => Own_calls sd Ah hc Ak kc chs cks W (hW.below hB) n1 n2 n3
  have c35 := fun A1 k1 A2 k2 W (hB : Below w.heap.size w W) (hA : WAt 51 W A1 A2 chs cks) => Track_calls sd A1 k1 A2 k2 chs cks k fr st n W (hL.below hB) hA hwf hn.2
  have c34 := fun A1 k1 A2 k2 W (hB : Below w.heap.size w W) (hA : WAt 51 W A1 A2 chs cks) => Growth_calls sd A1 k1 A2 k2 chs cks k fr st W (hL.below hB) hA hwf
  have c15 := fun A1 k1 A2 k2 W (hB : Below w.heap.size w W) (hA : WAt 51 W A1 A2 chs cks) => backO sd A1 k1 A2 k2 chs cks k mS mF W (hL.below hB) hA hwf hmS
  have c36 := fun W (hB : Below w.heap.size w W) => rTrack_calls sd Ah hc Ak kc chs cks k fr st n W (hW.below hB) hn.2 hst.2
  have c38 := fun W (hB : Below w.heap.size w W) => rGrowth_calls sd Ah hc Ak kc chs cks k fr st W (hW.below hB)
  have c39 := fun W (hB : Below w.heap.size w W) => backR sd Ah hc Ak kc chs cks k mS mF W (hW.below hB) hmS
  have c20 := fun W => wdraw_all sd k fr st n W hk.2 hfr.2 hst.2
  have c40 := fun W => rdraw_all sd k fr st n W hk.2 hfr.2 hst.2
  obtain ⟨Y, hY⟩ : ∃ y, IntKind.u64.wrap mF = y := ⟨_, rfl⟩
  have c41 := fun W => mix_calls sd Y W
  have c42 := fun W => rmix_calls sd Y W
  have c37 := fun (A B : Option Addr) (a b : Nat) (W : World) (h1 : Kd.C kI W A (trackL sd chs cks k fr st n).length (trackL sd chs cks k fr st n)) (h2 : Kd.C kI W B (trackL sd chs cks k fr st n).length (trackL sd chs cks k fr st n)) => sameInts_eq A B a b (trackL sd chs cks k fr st n) W h1 h2
  generalize errTr chs cks k fr st n = TE at *
  generalize trackL sd chs cks k fr st n = TL at *
  generalize growthR chs cks k fr st = G at *
  obtain ⟨⟨G1, G2⟩, G3⟩ := G
  generalize drawR sd k fr st n = D at *
  obtain ⟨D1, D2⟩ := D
  generalize mixF sd Y = MX at *
  simp only at c34 c38 c20 c40
  have HBE := Aside0.mk (fun {v e v' e' : Int} (h : BackIs sd chs cks k mS mF v e) (h' : BackIs sd chs cks k mS mF v' e') => BackIs.eq h h')
  clear hL hW hwf hbig n1 n2 n3 hk hfr hst hn hmS hmF
  by_cases h7 : 60 < n
  · have f1 : decide (n > 60) = true := decide_eq_true h7
    have f1' : decide (60 < n) = true := decide_eq_true h7
    have f2 : decide (n ≤ 20000) = false := decide_eq_false (by omega)
    clear h6 h7
    go_enter Tryd.func8, Tryd.ntmps8
    go_wp2_with fail
    obtain ⟨w1, hw1⟩ : ∃ w1, (w.alloc (.cells #[.int .u64 sd, .slice Ah chs.length hc, .slice Ak cks.length kc] 26)).alloc (.cells #[.int .i64 mS, .int .i64 mF] 69) = w1 := ⟨_, rfl⟩
    try rw [hw1]
    have hB : Below w.heap.size w w1 := by rw [← hw1]; exact ((Below.refl _ w).alloc (by first | exact Nat.le_refl _ | (simp; done) | (simp; omega)) _).alloc (by first | exact Nat.le_refl _ | (simp; done) | (simp; omega)) _
    have kx : w1.heap[w.heap.size]? = some (.cells #[.int .u64 sd, .slice Ah chs.length hc, .slice Ak cks.length kc] 26 (0, 0)) := by rw [← hw1]; exact al_old (al_new _ _ _ (by first | rfl | (simp; done) | (simp; omega)))
    have x0 : w1.cell? ⟨w.heap.size, 0, none⟩ = some (.int .u64 sd) := blk_cell kx 0
    have x1 : w1.cell? ⟨w.heap.size, 1, none⟩ = some (.slice Ah chs.length hc) := blk_cell kx 1
    have x2 : w1.cell? ⟨w.heap.size, 2, none⟩ = some (.slice Ak cks.length kc) := blk_cell kx 2
    clear kx
    have km : w1.heap[w.heap.size + 1]? = some (.cells #[.int .i64 mS, .int .i64 mF] 69 (0, 0)) := by rw [← hw1]; exact al_new _ _ _ (by first | rfl | (simp; done) | (simp; omega))
    have m0 : w1.cell? ⟨w.heap.size + 1, 0, none⟩ = some (.int .i64 mS) := blk_cell km 0
    have m1 : w1.cell? ⟨w.heap.size + 1, 1, none⟩ = some (.int .i64 mF) := blk_cell km 1
    clear km
    replace hv := hv.trans (hB.mono hv.size)
    clear hB hw1
    refine (c10 _ hv).mono ?_
    rintro en w2 ⟨rfl, hB⟩
    replace x0 := cell_on hB x0
    replace x1 := cell_on hB x1
    replace x2 := cell_on hB x2
    replace m0 := cell_on hB m0
    replace m1 := cell_on hB m1
    replace hv := hv.trans (hB.mono hv.size)
    clear hB c10
    go_wp2_with fail
    refine (c12 _ hv).mono ?_
    rintro en w3 ⟨A1, k1, A2, k2, rfl, hA, hB⟩
    replace x0 := cell_on hB x0
    replace x1 := cell_on hB x1
    replace x2 := cell_on hB x2
    replace m0 := cell_on hB m0
    replace m1 := cell_on hB m1
    replace hv := hv.trans (hB.mono hv.size)
    clear hB c12
    go_wp2_with fail
    obtain ⟨w4, hw4⟩ : ∃ w4, w3.alloc (.cells #[.int .u64 sd, .slice A1 chs.length k1, .slice A2 cks.length k2] 32) = w4 := ⟨_, rfl⟩
    try rw [hw4]
    have hB : Below w3.heap.size w3 w4 := by rw [← hw4]; exact (Below.refl _ w3).alloc (by first | exact Nat.le_refl _ | (simp; done) | (simp; omega)) _
    have ky : w4.heap[w3.heap.size]? = some (.cells #[.int .u64 sd, .slice A1 chs.length k1, .slice A2 cks.length k2] 32 (0, 0)) := by rw [← hw4]; exact al_new _ _ _ (by first | rfl | (simp; done) | (simp; omega))
    have y0 : w4.cell? ⟨w3.heap.size, 0, none⟩ = some (.int .u64 sd) := blk_cell ky 0
    have y1 : w4.cell? ⟨w3.heap.size, 1, none⟩ = some (.slice A1 chs.length k1) := blk_cell ky 1
    have y2 : w4.cell? ⟨w3.heap.size, 2, none⟩ = some (.slice A2 cks.length k2) := blk_cell ky 2
    clear ky
    replace hA := hA.below hB
    replace x0 := cell_on hB x0
    replace x1 := cell_on hB x1
    replace x2 := cell_on hB x2
    replace m0 := cell_on hB m0
    replace m1 := cell_on hB m1
    replace hv := hv.trans (hB.mono hv.size)
    clear hB hw4
    refine (c35 _ _ _ _ _ hv hA).mono ?_
    rintro en w5 ⟨T1, t1, rfl, hT1, hB⟩
    replace hA := hA.below hB
    replace x0 := cell_on hB x0
    replace x1 := cell_on hB x1
    replace x2 := cell_on hB x2
    replace m0 := cell_on hB m0
    replace m1 := cell_on hB m1
    replace y0 := cell_on hB y0
    replace y1 := cell_on hB y1
    replace y2 := cell_on hB y2
    replace hv := hv.trans (hB.mono hv.size)
    clear hB c35
    have HT1 := Aside0.mk hT1
    clear hT1
    go_wp2_with fail
    have hT1 := HT1.out
    refine (c36 _ hv).mono ?_
    rintro en w6 ⟨T2, t2, rfl, hT2, hB⟩
    replace hA := hA.below hB
    replace x0 := cell_on hB x0
    replace x1 := cell_on hB x1
    replace x2 := cell_on hB x2
    replace m0 := cell_on hB m0
    replace m1 := cell_on hB m1
    replace y0 := cell_on hB y0
    replace y1 := cell_on hB y1
    replace y2 := cell_on hB y2
    replace hT1 := Kd.C_below hT1 hB
    replace hv := hv.trans (hB.mono hv.size)
    have HT1 := Aside0.mk hT1
    have HT2 := Aside0.mk hT2
    clear hB c36 hT1 hT2
    go_wp2_with fail
    refine (c37 _ _ _ _ _ HT1.out HT2.out).mono ?_
    rintro en w7 ⟨rfl, hB⟩
    replace hA := hA.below hB
    replace x0 := cell_on hB x0
    replace x1 := cell_on hB x1
    replace x2 := cell_on hB x2
    replace m0 := cell_on hB m0
    replace m1 := cell_on hB m1
    replace y0 := cell_on hB y0
    replace y1 := cell_on hB y1
    replace y2 := cell_on hB y2
    replace hv := hv.trans (hB.mono hv.size)
    clear hB c37 HT1 HT2
    go_wp2_with fail
    refine (c34 _ _ _ _ _ hv hA).mono ?_
    rintro en w8 ⟨rfl, hB⟩
    replace hA := hA.below hB
    replace x0 := cell_on hB x0
    replace x1 := cell_on hB x1
    replace x2 := cell_on hB x2
    replace m0 := cell_on hB m0
    replace m1 := cell_on hB m1
    replace y0 := cell_on hB y0
    replace y1 := cell_on hB y1
    replace y2 := cell_on hB y2
    replace hv := hv.trans (hB.mono hv.size)
    clear hB c34
    go_upto_region 9 with fail
    obtain ⟨w9, hw9⟩ : ∃ w9, w8.alloc (.cells #[.int .i64 G1, .int .i64 G2] 65) = w9 := ⟨_, rfl⟩
    try rw [hw9]
    have hB : Below w8.heap.size w8 w9 := by rw [← hw9]; exact (Below.refl _ w8).alloc (by first | exact Nat.le_refl _ | (simp; done) | (simp; omega)) _
    have kp : w9.heap[w8.heap.size]? = some (.cells #[.int .i64 G1, .int .i64 G2] 65 (0, 0)) := by rw [← hw9]; exact al_new _ _ _ (by first | rfl | (simp; done) | (simp; omega))
    have p0 : w9.cell? ⟨w8.heap.size, 0, none⟩ = some (.int .i64 G1) := blk_cell kp 0
    have p1 : w9.cell? ⟨w8.heap.size, 1, none⟩ = some (.int .i64 G2) := blk_cell kp 1
    clear kp
    replace hA := hA.below hB
    replace x0 := cell_on hB x0
    replace x1 := cell_on hB x1
    replace x2 := cell_on hB x2
    replace m0 := cell_on hB m0
    replace m1 := cell_on hB m1
    replace y0 := cell_on hB y0
    replace y1 := cell_on hB y1
    replace y2 := cell_on hB y2
    replace hv := hv.trans (hB.mono hv.size)
    clear hB hw9
    go_wp2_with fail
    refine (c38 _ hv).mono ?_
    rintro en w10 ⟨rfl, hB⟩
    replace hA := hA.below hB
    replace x0 := cell_on hB x0
    replace x1 := cell_on hB x1
    replace x2 := cell_on hB x2
    replace m0 := cell_on hB m0
    replace m1 := cell_on hB m1
    replace y0 := cell_on hB y0
    replace y1 := cell_on hB y1
    replace y2 := cell_on hB y2
    replace p0 := cell_on hB p0
    replace p1 := cell_on hB p1
    replace hv := hv.trans (hB.mono hv.size)
    clear hB c38
    go_upto_region 10 with fail
    obtain ⟨w11, hw11⟩ : ∃ w11, w10.alloc (.cells #[.int .i64 G1, .int .i64 G2] 65) = w11 := ⟨_, rfl⟩
    try rw [hw11]
    have hB : Below w10.heap.size w10 w11 := by rw [← hw11]; exact (Below.refl _ w10).alloc (by first | exact Nat.le_refl _ | (simp; done) | (simp; omega)) _
    have kq : w11.heap[w10.heap.size]? = some (.cells #[.int .i64 G1, .int .i64 G2] 65 (0, 0)) := by rw [← hw11]; exact al_new _ _ _ (by first | rfl | (simp; done) | (simp; omega))
    have q0 : w11.cell? ⟨w10.heap.size, 0, none⟩ = some (.int .i64 G1) := blk_cell kq 0
    have q1 : w11.cell? ⟨w10.heap.size, 1, none⟩ = some (.int .i64 G2) := blk_cell kq 1
    clear kq
    replace hA := hA.below hB
    replace x0 := cell_on hB x0
    replace x1 := cell_on hB x1
    replace x2 := cell_on hB x2
    replace m0 := cell_on hB m0
    replace m1 := cell_on hB m1
    replace y0 := cell_on hB y0
    replace y1 := cell_on hB y1
    replace y2 := cell_on hB y2
    replace p0 := cell_on hB p0
    replace p1 := cell_on hB p1
    replace hv := hv.trans (hB.mono hv.size)
    clear hB hw11
    go_wp2_with fail
    clear p0 p1 q0 q1
    refine (c15 _ _ _ _ _ hv hA).mono ?_
    rintro en w12 ⟨v, E, rfl, hb1, hB⟩
    replace hA := hA.below hB
    replace x0 := cell_on hB x0
    replace x1 := cell_on hB x1
    replace x2 := cell_on hB x2
    replace m0 := cell_on hB m0
    replace m1 := cell_on hB m1
    replace y0 := cell_on hB y0
    replace y1 := cell_on hB y1
    replace y2 := cell_on hB y2
    replace hv := hv.trans (hB.mono hv.size)
    clear hB c15
    have HB1 := Aside0.mk hb1
    clear hb1
    go_wp2_with fail
    refine (c39 _ hv).mono ?_
    rintro en w13 ⟨v', E', rfl, hb2, hB⟩
    replace hA := hA.below hB
    replace x0 := cell_on hB x0
    replace x1 := cell_on hB x1
    replace x2 := cell_on hB x2
    replace m0 := cell_on hB m0
    replace m1 := cell_on hB m1
    replace y0 := cell_on hB y0
    replace y1 := cell_on hB y1
    replace y2 := cell_on hB y2
    replace hv := hv.trans (hB.mono hv.size)
    obtain ⟨rfl, rfl⟩ := HBE.out HB1.out hb2
    clear hB c39 HB1 HBE hb2
    go_wp2_with fail
    refine (c20 _).mono ?_
    rintro en w14 ⟨rfl, hB⟩
    replace hA := hA.below hB
    replace x0 := cell_on hB x0
    replace x1 := cell_on hB x1
    replace x2 := cell_on hB x2
    replace m0 := cell_on hB m0
    replace m1 := cell_on hB m1
    replace y0 := cell_on hB y0
    replace y1 := cell_on hB y1
    replace y2 := cell_on hB y2
    replace hv := hv.trans (hB.mono hv.size)
    clear hB c20
    go_wp2_with fail
    refine (c40 _).mono ?_
    rintro en w15 ⟨rfl, hB⟩
    replace hA := hA.below hB
    replace x0 := cell_on hB x0
    replace x1 := cell_on hB x1
    replace x2 := cell_on hB x2
    replace m0 := cell_on hB m0
    replace m1 := cell_on hB m1
    replace y0 := cell_on hB y0
    replace y1 := cell_on hB y1
    replace y2 := cell_on hB y2
    replace hv := hv.trans (hB.mono hv.size)
    clear hB c40
    go_upto_region 18 with fail
    have hS : ∀ w', Below w15.heap.size w15 w' → ((w'.cell? ⟨w.heap.size, 0, none⟩ = some (.int .u64 sd) ∧ w'.cell? ⟨w.heap.size + 1, 1, none⟩ = some (.int .i64 mF)) ∧ Below w15.heap.size w15 w') := fun w' hB => ⟨⟨cell_on hB x0, cell_on hB m1⟩, hB⟩
    have baw := fun (W : World) (hB : Below w15.heap.size w15 W) => aw W (hv.trans (hB.mono hv.size))
    go_region_held3 (fun w' => (w'.cell? ⟨w.heap.size, 0, none⟩ = some (.int .u64 sd) ∧ w'.cell? ⟨w.heap.size + 1, 1, none⟩ = some (.int .i64 mF)) ∧ Below w15.heap.size w15 w') (first | exact hS _ (Below.refl _ _).drew | assumption | (have hh := ‹(_ ∧ _) ∧ Below w15.heap.size w15 _›; exact hS _ (hh.2.trans (hB.mono hh.2.size))))
      (first | (go_at_call 41; with_reducible refine (c41 _).mono ?_; rintro e w' ⟨rfl, hB⟩) | (go_at_call 42; with_reducible refine (c42 _).mono ?_; rintro e w' ⟨rfl, hB⟩) | (go_at_call 11; (first | (have hh := ‹(_ ∧ _) ∧ Below w15.heap.size w15 _›; with_reducible refine (baw _ hh.2).mono ?_) | with_reducible refine (baw _ (Below.refl _ _).drew).mono ?_ | with_reducible refine (baw _ (Below.refl _ _)).mono ?_); rintro e w' ⟨rfl, hB⟩))
    all_goals
      rename_i hHeld
      have hB9 := hHeld.2
      clear hHeld
      go_wp2
      go_ret
      exact ⟨rfl, hv.trans (hB9.mono hv.size)⟩
  · have f1 : decide (n > 60) = false := decide_eq_false h7
    have f1' : decide (60 < n) = false := decide_eq_false h7
    clear h6 h7
    go_enter Tryd.func8, Tryd.ntmps8
    go_wp2_with fail
    obtain ⟨w1, hw1⟩ : ∃ w1, (w.alloc (.cells #[.int .u64 sd, .slice Ah chs.length hc, .slice Ak cks.length kc] 26)).alloc (.cells #[.int .i64 mS, .int .i64 mF] 69) = w1 := ⟨_, rfl⟩
    try rw [hw1]
    have hB : Below w.heap.size w w1 := by rw [← hw1]; exact ((Below.refl _ w).alloc (by first | exact Nat.le_refl _ | (simp; done) | (simp; omega)) _).alloc (by first | exact Nat.le_refl _ | (simp; done) | (simp; omega)) _
    have kx : w1.heap[w.heap.size]? = some (.cells #[.int .u64 sd, .slice Ah chs.length hc, .slice Ak cks.length kc] 26 (0, 0)) := by rw [← hw1]; exact al_old (al_new _ _ _ (by first | rfl | (simp; done) | (simp; omega)))
    have x0 : w1.cell? ⟨w.heap.size, 0, none⟩ = some (.int .u64 sd) := blk_cell kx 0
    have x1 : w1.cell? ⟨w.heap.size, 1, none⟩ = some (.slice Ah chs.length hc) := blk_cell kx 1
    have x2 : w1.cell? ⟨w.heap.size, 2, none⟩ = some (.slice Ak cks.length kc) := blk_cell kx 2
    clear kx
    have km : w1.heap[w.heap.size + 1]? = some (.cells #[.int .i64 mS, .int .i64 mF] 69 (0, 0)) := by rw [← hw1]; exact al_new _ _ _ (by first | rfl | (simp; done) | (simp; omega))
    have m0 : w1.cell? ⟨w.heap.size + 1, 0, none⟩ = some (.int .i64 mS) := blk_cell km 0
    have m1 : w1.cell? ⟨w.heap.size + 1, 1, none⟩ = some (.int .i64 mF) := blk_cell km 1
    clear km
    replace hv := hv.trans (hB.mono hv.size)
    clear hB hw1
    refine (c10 _ hv).mono ?_
    rintro en w2 ⟨rfl, hB⟩
    replace x0 := cell_on hB x0
    replace x1 := cell_on hB x1
    replace x2 := cell_on hB x2
    replace m0 := cell_on hB m0
    replace m1 := cell_on hB m1
    replace hv := hv.trans (hB.mono hv.size)
    clear hB c10
    go_wp2_with fail
    refine (c12 _ hv).mono ?_
    rintro en w3 ⟨A1, k1, A2, k2, rfl, hA, hB⟩
    replace x0 := cell_on hB x0
    replace x1 := cell_on hB x1
    replace x2 := cell_on hB x2
    replace m0 := cell_on hB m0
    replace m1 := cell_on hB m1
    replace hv := hv.trans (hB.mono hv.size)
    clear hB c12
    go_wp2_with fail
    obtain ⟨w4, hw4⟩ : ∃ w4, w3.alloc (.cells #[.int .u64 sd, .slice A1 chs.length k1, .slice A2 cks.length k2] 32) = w4 := ⟨_, rfl⟩
    try rw [hw4]
    have hB : Below w3.heap.size w3 w4 := by rw [← hw4]; exact (Below.refl _ w3).alloc (by first | exact Nat.le_refl _ | (simp; done) | (simp; omega)) _
    have ky : w4.heap[w3.heap.size]? = some (.cells #[.int .u64 sd, .slice A1 chs.length k1, .slice A2 cks.length k2] 32 (0, 0)) := by rw [← hw4]; exact al_new _ _ _ (by first | rfl | (simp; done) | (simp; omega))
    have y0 : w4.cell? ⟨w3.heap.size, 0, none⟩ = some (.int .u64 sd) := blk_cell ky 0
    have y1 : w4.cell? ⟨w3.heap.size, 1, none⟩ = some (.slice A1 chs.length k1) := blk_cell ky 1
    have y2 : w4.cell? ⟨w3.heap.size, 2, none⟩ = some (.slice A2 cks.length k2) := blk_cell ky 2
    clear ky
    replace hA := hA.below hB
    replace x0 := cell_on hB x0
    replace x1 := cell_on hB x1
    replace x2 := cell_on hB x2
    replace m0 := cell_on hB m0
    replace m1 := cell_on hB m1
    replace hv := hv.trans (hB.mono hv.size)
    clear hB hw4
    refine (c35 _ _ _ _ _ hv hA).mono ?_
    rintro en w5 ⟨T1, t1, rfl, hT1, hB⟩
    replace hA := hA.below hB
    replace x0 := cell_on hB x0
    replace x1 := cell_on hB x1
    replace x2 := cell_on hB x2
    replace m0 := cell_on hB m0
    replace m1 := cell_on hB m1
    replace y0 := cell_on hB y0
    replace y1 := cell_on hB y1
    replace y2 := cell_on hB y2
    replace hv := hv.trans (hB.mono hv.size)
    clear hB c35
    have HT1 := Aside0.mk hT1
    clear hT1
    go_wp2_with fail
    have hT1 := HT1.out
    refine (c36 _ hv).mono ?_
    rintro en w6 ⟨T2, t2, rfl, hT2, hB⟩
    replace hA := hA.below hB
    replace x0 := cell_on hB x0
    replace x1 := cell_on hB x1
    replace x2 := cell_on hB x2
    replace m0 := cell_on hB m0
    replace m1 := cell_on hB m1
    replace y0 := cell_on hB y0
    replace y1 := cell_on hB y1
    replace y2 := cell_on hB y2
    replace hT1 := Kd.C_below hT1 hB
    replace hv := hv.trans (hB.mono hv.size)
    have HT1 := Aside0.mk hT1
    have HT2 := Aside0.mk hT2
    clear hB c36 hT1 hT2
    go_wp2_with fail
    refine (c37 _ _ _ _ _ HT1.out HT2.out).mono ?_
    rintro en w7 ⟨rfl, hB⟩
    replace hA := hA.below hB
    replace x0 := cell_on hB x0
    replace x1 := cell_on hB x1
    replace x2 := cell_on hB x2
    replace m0 := cell_on hB m0
    replace m1 := cell_on hB m1
    replace y0 := cell_on hB y0
    replace y1 := cell_on hB y1
    replace y2 := cell_on hB y2
    replace hv := hv.trans (hB.mono hv.size)
    clear hB c37 HT1 HT2
    go_wp2_with fail
    refine (c34 _ _ _ _ _ hv hA).mono ?_
    rintro en w8 ⟨rfl, hB⟩
    replace hA := hA.below hB
    replace x0 := cell_on hB x0
    replace x1 := cell_on hB x1
    replace x2 := cell_on hB x2
    replace m0 := cell_on hB m0
    replace m1 := cell_on hB m1
    replace y0 := cell_on hB y0
    replace y1 := cell_on hB y1
    replace y2 := cell_on hB y2
    replace hv := hv.trans (hB.mono hv.size)
    clear hB c34
    go_upto_region 9 with fail
    obtain ⟨w9, hw9⟩ : ∃ w9, w8.alloc (.cells #[.int .i64 G1, .int .i64 G2] 65) = w9 := ⟨_, rfl⟩
    try rw [hw9]
    have hB : Below w8.heap.size w8 w9 := by rw [← hw9]; exact (Below.refl _ w8).alloc (by first | exact Nat.le_refl _ | (simp; done) | (simp; omega)) _
    have kp : w9.heap[w8.heap.size]? = some (.cells #[.int .i64 G1, .int .i64 G2] 65 (0, 0)) := by rw [← hw9]; exact al_new _ _ _ (by first | rfl | (simp; done) | (simp; omega))
    have p0 : w9.cell? ⟨w8.heap.size, 0, none⟩ = some (.int .i64 G1) := blk_cell kp 0
    have p1 : w9.cell? ⟨w8.heap.size, 1, none⟩ = some (.int .i64 G2) := blk_cell kp 1
    clear kp
    replace hA := hA.below hB
    replace x0 := cell_on hB x0
    replace x1 := cell_on hB x1
    replace x2 := cell_on hB x2
    replace m0 := cell_on hB m0
    replace m1 := cell_on hB m1
    replace y0 := cell_on hB y0
    replace y1 := cell_on hB y1
    replace y2 := cell_on hB y2
    replace hv := hv.trans (hB.mono hv.size)
    clear hB hw9
    go_wp2_with fail
    refine (c38 _ hv).mono ?_
    rintro en w10 ⟨rfl, hB⟩
    replace hA := hA.below hB
    replace x0 := cell_on hB x0
    replace x1 := cell_on hB x1
    replace x2 := cell_on hB x2
    replace m0 := cell_on hB m0
    replace m1 := cell_on hB m1
    replace y0 := cell_on hB y0
    replace y1 := cell_on hB y1
    replace y2 := cell_on hB y2
    replace p0 := cell_on hB p0
    replace p1 := cell_on hB p1
    replace hv := hv.trans (hB.mono hv.size)
    clear hB c38
    go_upto_region 10 with fail
    obtain ⟨w11, hw11⟩ : ∃ w11, w10.alloc (.cells #[.int .i64 G1, .int .i64 G2] 65) = w11 := ⟨_, rfl⟩
    try rw [hw11]
    have hB : Below w10.heap.size w10 w11 := by rw [← hw11]; exact (Below.refl _ w10).alloc (by first | exact Nat.le_refl _ | (simp; done) | (simp; omega)) _
    have kq : w11.heap[w10.heap.size]? = some (.cells #[.int .i64 G1, .int .i64 G2] 65 (0, 0)) := by rw [← hw11]; exact al_new _ _ _ (by first | rfl | (simp; done) | (simp; omega))
    have q0 : w11.cell? ⟨w10.heap.size, 0, none⟩ = some (.int .i64 G1) := blk_cell kq 0
    have q1 : w11.cell? ⟨w10.heap.size, 1, none⟩ = some (.int .i64 G2) := blk_cell kq 1
    clear kq
    replace hA := hA.below hB
    replace x0 := cell_on hB x0
    replace x1 := cell_on hB x1
    replace x2 := cell_on hB x2
    replace m0 := cell_on hB m0
    replace m1 := cell_on hB m1
    replace y0 := cell_on hB y0
    replace y1 := cell_on hB y1
    replace y2 := cell_on hB y2
    replace p0 := cell_on hB p0
    replace p1 := cell_on hB p1
    replace hv := hv.trans (hB.mono hv.size)
    clear hB hw11
    go_wp2_with fail
    clear p0 p1 q0 q1
    refine (c15 _ _ _ _ _ hv hA).mono ?_
    rintro en w12 ⟨v, E, rfl, hb1, hB⟩
    replace hA := hA.below hB
    replace x0 := cell_on hB x0
    replace x1 := cell_on hB x1
    replace x2 := cell_on hB x2
    replace m0 := cell_on hB m0
    replace m1 := cell_on hB m1
    replace y0 := cell_on hB y0
    replace y1 := cell_on hB y1
    replace y2 := cell_on hB y2
    replace hv := hv.trans (hB.mono hv.size)
    clear hB c15
    have HB1 := Aside0.mk hb1
    clear hb1
    go_wp2_with fail
    refine (c39 _ hv).mono ?_
    rintro en w13 ⟨v', E', rfl, hb2, hB⟩
    replace hA := hA.below hB
    replace x0 := cell_on hB x0
    replace x1 := cell_on hB x1
    replace x2 := cell_on hB x2
    replace m0 := cell_on hB m0
    replace m1 := cell_on hB m1
    replace y0 := cell_on hB y0
    replace y1 := cell_on hB y1
    replace y2 := cell_on hB y2
    replace hv := hv.trans (hB.mono hv.size)
    obtain ⟨rfl, rfl⟩ := HBE.out HB1.out hb2
    clear hB c39 HB1 HBE hb2
    go_wp2_with fail
    refine (c20 _).mono ?_
    rintro en w14 ⟨rfl, hB⟩
    replace hA := hA.below hB
    replace x0 := cell_on hB x0
    replace x1 := cell_on hB x1
    replace x2 := cell_on hB x2
    replace m0 := cell_on hB m0
    replace m1 := cell_on hB m1
    replace y0 := cell_on hB y0
    replace y1 := cell_on hB y1
    replace y2 := cell_on hB y2
    replace hv := hv.trans (hB.mono hv.size)
    clear hB c20
    go_wp2_with fail
    refine (c40 _).mono ?_
    rintro en w15 ⟨rfl, hB⟩
    replace hA := hA.below hB
    replace x0 := cell_on hB x0
    replace x1 := cell_on hB x1
    replace x2 := cell_on hB x2
    replace m0 := cell_on hB m0
    replace m1 := cell_on hB m1
    replace y0 := cell_on hB y0
    replace y1 := cell_on hB y1
    replace y2 := cell_on hB y2
    replace hv := hv.trans (hB.mono hv.size)
    clear hB c40
    go_upto_region 18 with fail
    have hS : ∀ w', Below w15.heap.size w15 w' → ((w'.cell? ⟨w.heap.size, 0, none⟩ = some (.int .u64 sd) ∧ w'.cell? ⟨w.heap.size + 1, 1, none⟩ = some (.int .i64 mF)) ∧ Below w15.heap.size w15 w') := fun w' hB => ⟨⟨cell_on hB x0, cell_on hB m1⟩, hB⟩
    have baw := fun (W : World) (hB : Below w15.heap.size w15 W) => aw W (hv.trans (hB.mono hv.size))
    go_region_held3 (fun w' => (w'.cell? ⟨w.heap.size, 0, none⟩ = some (.int .u64 sd) ∧ w'.cell? ⟨w.heap.size + 1, 1, none⟩ = some (.int .i64 mF)) ∧ Below w15.heap.size w15 w') (first | exact hS _ (Below.refl _ _).drew | assumption | (have hh := ‹(_ ∧ _) ∧ Below w15.heap.size w15 _›; exact hS _ (hh.2.trans (hB.mono hh.2.size))))
      (first | (go_at_call 41; with_reducible refine (c41 _).mono ?_; rintro e w' ⟨rfl, hB⟩) | (go_at_call 42; with_reducible refine (c42 _).mono ?_; rintro e w' ⟨rfl, hB⟩) | (go_at_call 11; (first | (have hh := ‹(_ ∧ _) ∧ Below w15.heap.size w15 _›; with_reducible refine (baw _ hh.2).mono ?_) | with_reducible refine (baw _ (Below.refl _ _).drew).mono ?_ | with_reducible refine (baw _ (Below.refl _ _)).mono ?_); rintro e w' ⟨rfl, hB⟩))
    all_goals
      rename_i hHeld
      have hB9 := hHeld.2
      clear hHeld
      go_wp2
      go_ret
      exact ⟨rfl, hv.trans (hB9.mono hv.size)⟩
end Go.Proofs.YtlfnnalepdjagaaDoor.C
