/- WorldHolds: the law's walk. -/
import Derived.OwnWalk
import Derived.BigRegion
import Derived.Deep.RegionHeld3
import Derived.Test.YtlfnnalepdjagaaDoorBh
import Derived.Test.YtlfnnalepdjagaaDoorBe
namespace Go.Proofs.YtlfnnalepdjagaaDoor.C
open Go.RowKit Go.Shelf Go.Maps Go.Proofs.YtlfnnalepdjagaaDoorW.PrintWords Go.Proofs.YtlfnnalepdjagaaDoorW.PrintLast Go.Proofs.YtlfnnalepdjagaaDoorW.PrintMore
set_option linter.unusedVariables false
set_option linter.unusedSimpArgs false
theorem big_false {chs : List T3} {cks : List Ck} (h : bigF chs cks = false) : chs.length ≤ 40 ∧ cks.length ≤ 40 ∧ ∀ x ∈ cks, x.es.length ≤ 40 := by
  unfold bigF at h
  simp only [Bool.or_eq_false_iff, decide_eq_false_iff_not, List.any_eq_false, decide_eq_true_eq] at h
  exact ⟨by omega, by omega, fun x hx => by have := h.2.2 x hx; omega⟩
theorem steps_append (seed k wk : Int) (m : Nat) : ∀ (n : Nat) (a : Int), stepsT seed k wk a (n + m) = stepsT seed k wk a n ++ stepsT seed k wk (a + n) m
  | 0, a => by simp [stepsT]
  | n + 1, a => by
    rw [show n + 1 + m = (n + m) + 1 by omega, stepsT, steps_append seed k wk m n (a + 1), stepsT]
    simp only [List.cons_append, show a + 1 + (n : Int) = a + ((n + 1 : Nat) : Int) by omega]
theorem walked_diff {seed k wk a b : Int} (hwk : 0 ≤ wk) (ha : 0 ≤ a) (hab : a ≤ b) : -(wk * (b / 100 - a / 100)) ≤ walkedF seed k wk 0 b - walkedF seed k wk 0 a ∧ walkedF seed k wk 0 b - walkedF seed k wk 0 a ≤ wk * (b / 100 - a / 100) := by
  unfold walkedF
  obtain ⟨m, hm⟩ : ∃ m, stepsN 0 b = stepsN 0 a + m := ⟨stepsN 0 b - stepsN 0 a, by unfold stepsN; omega⟩
  have hm2 : (m : Int) = b / 100 - a / 100 := by unfold stepsN at hm; omega
  rw [hm, steps_append, List.foldl_append]
  have h := fold_b wk hwk (stepsT seed k wk (0 / 100 + 1 + (stepsN 0 a : Int)) m) (List.foldl (· + ·) 0 (stepsT seed k wk (0 / 100 + 1) (stepsN 0 a))) (stepsT_b seed k wk hwk m _)
  rw [stepsT_len, hm2] at h
  exact h
theorem walked_zero {seed k wk s : Int} (hwk : 0 ≤ wk) (hs : 0 ≤ s) : -(wk * (s / 100)) ≤ walkedF seed k wk 0 s ∧ walkedF seed k wk 0 s ≤ wk * (s / 100) := by
  have h := walked_diff (seed := seed) (k := k) (a := 0) (b := s) hwk (Int.le_refl 0) hs
  have e : walkedF seed k wk 0 0 = 0 := by unfold walkedF stepsN; simp [stepsT]
  rw [e] at h
  simpa using h
theorem phase_still (seed : Int) (chs : List T3) (cks : List Ck) (k s : Int) : phaseF seed chs cks k s = stillK chs cks k s + walkedF seed k (ckAt cks k).wk 0 s := rfl
theorem reach_in {seed : Int} {chs : List T3} {cks : List Ck} {k s : Int} (h : errS chs cks k s = 0) : (reachR chs cks k s).1.1 ≤ shownF seed chs cks k s ∧ shownF seed chs cks k s ≤ (reachR chs cks k s).1.2 ∧ -400000000000000 < (reachR chs cks k s).1.1 ∧ (reachR chs cks k s).1.2 < 400000000000000 := by
  have hz := errS_zero h
  have hk := errK_zero hz.1
  obtain ⟨i, rfl⟩ : ∃ i : Nat, k = i := ⟨k.toNat, by omega⟩
  have hi : i < cks.length := by omega
  obtain ⟨hO, hEv, q, hq, hxq, hc⟩ := hk.1.at hi
  unfold reachR
  rw [if_pos h]
  simp only
  have hs := hz.2
  have e1 : stillK chs cks (i : Int) s = stillF cks[i] chs[q] s := by unfold stillK; rw [ckAt_of hi, room_of hq hxq]
  have h1 := still_tight hO hEv hc hs
  have h2 := walked_zero (seed := seed) (k := (i : Int)) (s := s) hO.wk.1 hs.1
  have h3 := drawF_range seed 2 (i : Int) s cks[i].wh hO.wh.1
  have hb := rt_b hO
  have h4 : cks[i].wk * (s / 100) ≤ 1000000000 * 10000 := Int.mul_le_mul hb.2.2.2 (by omega) (by omega) (by omega)
  unfold shownF
  rw [phase_still, e1, ckAt_of hi]
  unfold farF
  omega
theorem growth_in {seed : Int} {chs : List T3} {cks : List Ck} {k a b : Int} (h : errG chs cks k a b = 0) : errS chs cks k a = 0 ∧ errS chs cks k b = 0 ∧ (growthR chs cks k a b).1.1 ≤ phaseF seed chs cks k b - phaseF seed chs cks k a ∧ phaseF seed chs cks k b - phaseF seed chs cks k a ≤ (growthR chs cks k a b).1.2 := by
  have h0 := h
  unfold errG at h
  split at h
  · rename_i hE
    split at h
    · rename_i hT
      split at h
      · omega
      · rename_i hab
        have hz := errS_zero hE
        have hk := errK_zero hz.1
        refine ⟨hE, by unfold errS; rw [if_pos hz.1]; exact hT, ?_⟩
        obtain ⟨i, rfl⟩ : ∃ i : Nat, k = i := ⟨k.toNat, by omega⟩
        have hi : i < cks.length := by omega
        obtain ⟨hO, _⟩ := hk.1.at hi
        have h2 := walked_diff (seed := seed) (k := (i : Int)) (a := a) (b := b) hO.wk.1 hz.2.1 (by omega)
        unfold growthR
        rw [if_pos h0]
        simp only
        unfold growF
        rw [phase_still, phase_still, ckAt_of hi]
        omega
    · rename_i hT; exact absurd h hT
  · rename_i hE; exact absurd h hE
theorem phase_b {seed : Int} {chs : List T3} {cks : List Ck} {k s : Int} (h : errS chs cks k s = 0) : -390000000000000 ≤ phaseF seed chs cks k s ∧ phaseF seed chs cks k s ≤ 390000000000000 := by
  have hz := errS_zero h
  have hk := errK_zero hz.1
  obtain ⟨i, rfl⟩ : ∃ i : Nat, k = i := ⟨k.toNat, by omega⟩
  exact phase_tight hk.1 (by omega) hz.2
set_option maxHeartbeats 4000000 in
set_option maxRecDepth 100000 in
theorem worldHolds_main (sd : Int) (Ah : Option Addr) (hc : Nat) (Ak : Option Addr) (kc : Nat) (chs : List T3) (cks : List Ck) (seed k a b : Int) (w : World) (hL : Lim w) (hW : WAt 90 w Ah Ak chs cks) (hwf : WfK cks) :
    Calls Tryd.prog 7 #[woV sd Ah chs.length hc Ak cks.length kc, .int .u64 seed, .int .i64 k, .int .i64 a, .int .i64 b] w fun e w' => e = .returned (.bool true) ∧ Below w.heap.size w w' := by
  have hv := Below.refl w.heap.size w
  have aw := fun W (hB : Below w.heap.size w W) => awake_calls W (hL.below hB)
  have c10 := fun W (hB : Below w.heap.size w W) => Big_calls sd Ah hc Ak kc chs cks W (hW.below hB)
  by_cases hbig : bigF chs cks = true
  · rw [hbig] at c10
    clear hL hW hwf hbig
    go_enter Tryd.func7, Tryd.ntmps7
    go_wp2_with fail
    obtain ⟨w1, hw1⟩ : ∃ w1, w.alloc (.cells #[.int .u64 sd, .slice Ah chs.length hc, .slice Ak cks.length kc] 26) = w1 := ⟨_, rfl⟩
    try rw [hw1]
    have hB : Below w.heap.size w w1 := by rw [← hw1]; exact (Below.refl _ w).alloc (by first | exact Nat.le_refl _ | (simp; done) | (simp; omega)) _
    have kx : w1.heap[w.heap.size]? = some (.cells #[.int .u64 sd, .slice Ah chs.length hc, .slice Ak cks.length kc] 26 (0, 0)) := by rw [← hw1]; exact al_new _ _ _ (by first | rfl | (simp; done) | (simp; omega))
    have x0 : w1.cell? ⟨w.heap.size, 0, none⟩ = some (.int .u64 sd) := blk_cell kx 0
    have x1 : w1.cell? ⟨w.heap.size, 1, none⟩ = some (.slice Ah chs.length hc) := blk_cell kx 1
    have x2 : w1.cell? ⟨w.heap.size, 2, none⟩ = some (.slice Ak cks.length kc) := blk_cell kx 2
    clear kx
    replace hv := hv.trans (hB.mono hv.size)
    clear hB hw1
    refine (c10 _ hv).mono ?_
    rintro en w2 ⟨rfl, hB⟩
    replace x0 := cell_on hB x0
    replace x1 := cell_on hB x1
    replace x2 := cell_on hB x2
    replace hv := hv.trans (hB.mono hv.size)
    clear hB c10
    clear x0 x1 x2
    go_wp2_with fail
    refine (aw _ hv).mono ?_
    rintro en w3 ⟨rfl, hB⟩
    replace hv := hv.trans (hB.mono hv.size)
    clear hB aw
    go_wp2
    go_ret
    exact ⟨rfl, hv⟩
  · simp only [Bool.not_eq_true] at hbig
    rw [hbig] at c10
    obtain ⟨n1, n2, n3⟩ := big_false hbig
    have c12 := fun W (hB : Below w.heap.size w W) => Own_calls sd Ah hc Ak kc chs cks W (hW.below hB) n1 n2 n3
    have c30 := fun A1 k1 A2 k2 W (hB : Below w.heap.size w W) (hA : WAt 51 W A1 A2 chs cks) => Reach_calls sd A1 k1 A2 k2 chs cks k a W (hL.below hB) hA hwf
    have c34 := fun A1 k1 A2 k2 W (hB : Below w.heap.size w W) (hA : WAt 51 W A1 A2 chs cks) => Growth_calls sd A1 k1 A2 k2 chs cks k a b W (hL.below hB) hA hwf
    have c21 := fun A1 k1 A2 k2 W (hB : Below w.heap.size w W) (hA : WAt 51 W A1 A2 chs cks) => Shown_calls seed A1 k1 A2 k2 chs cks k a W (hL.below hB) hA hwf
    have p1 := fun A1 k1 A2 k2 W (hB : Below w.heap.size w W) (hA : WAt 51 W A1 A2 chs cks) => Phase_calls seed A1 k1 A2 k2 chs cks k a W (hL.below hB) hA hwf
    have p2 := fun A1 k1 A2 k2 W (hB : Below w.heap.size w W) (hA : WAt 51 W A1 A2 chs cks) => Phase_calls seed A1 k1 A2 k2 chs cks k b W (hL.below hB) hA hwf
    have rin := fun h => reach_in (seed := seed) (chs := chs) (cks := cks) (k := k) (s := a) h
    have gin := fun h => growth_in (seed := seed) (chs := chs) (cks := cks) (k := k) (a := a) (b := b) h
    have re : (reachR chs cks k a).2 = errS chs cks k a := by unfold reachR; split; (rename_i h; exact h.symm); rfl
    have ge : (growthR chs cks k a b).2 = errG chs cks k a b := by unfold growthR; split; (rename_i h; exact h.symm); rfl
    rw [re] at c30
    rw [ge] at c34
    generalize hRR : reachR chs cks k a = R at *
    generalize hGG : growthR chs cks k a b = G at *
    obtain ⟨⟨lo, hi⟩, _⟩ := R
    obtain ⟨⟨gl, gh⟩, _⟩ := G
    simp only at c30 c34 rin gin
    clear hbig n1 n2 n3 hL hW hwf hRR hGG re ge
    by_cases hE : errS chs cks k a = 0
    rotate_left
    · have hG : errG chs cks k a b = errS chs cks k a := by unfold errG; rw [if_neg hE]
      have hN : shownR seed chs cks k a = (0, errS chs cks k a) := by unfold shownR; rw [errN_eq hE, if_neg hE]
      rw [hG] at c34
      rw [hN] at c21
      simp only at c21
      clear rin gin hG hN p1 p2
      generalize errS chs cks k a = E at *
      have d1 : (E == 0) = false := beq_eq_false_iff_ne.2 hE
      go_enter Tryd.func7, Tryd.ntmps7
      go_wp2_with fail
      obtain ⟨w1, hw1⟩ : ∃ w1, w.alloc (.cells #[.int .u64 sd, .slice Ah chs.length hc, .slice Ak cks.length kc] 26) = w1 := ⟨_, rfl⟩
      try rw [hw1]
      have hB : Below w.heap.size w w1 := by rw [← hw1]; exact (Below.refl _ w).alloc (by first | exact Nat.le_refl _ | (simp; done) | (simp; omega)) _
      have kx : w1.heap[w.heap.size]? = some (.cells #[.int .u64 sd, .slice Ah chs.length hc, .slice Ak cks.length kc] 26 (0, 0)) := by rw [← hw1]; exact al_new _ _ _ (by first | rfl | (simp; done) | (simp; omega))
      have x0 : w1.cell? ⟨w.heap.size, 0, none⟩ = some (.int .u64 sd) := blk_cell kx 0
      have x1 : w1.cell? ⟨w.heap.size, 1, none⟩ = some (.slice Ah chs.length hc) := blk_cell kx 1
      have x2 : w1.cell? ⟨w.heap.size, 2, none⟩ = some (.slice Ak cks.length kc) := blk_cell kx 2
      clear kx
      replace hv := hv.trans (hB.mono hv.size)
      clear hB hw1
      refine (c10 _ hv).mono ?_
      rintro en w2 ⟨rfl, hB⟩
      replace x0 := cell_on hB x0
      replace x1 := cell_on hB x1
      replace x2 := cell_on hB x2
      replace hv := hv.trans (hB.mono hv.size)
      clear hB c10
      go_wp2_with fail
      refine (c12 _ hv).mono ?_
      rintro en w3 ⟨A1, k1, A2, k2, rfl, hA, hB⟩
      replace x0 := cell_on hB x0
      replace x1 := cell_on hB x1
      replace x2 := cell_on hB x2
      replace hv := hv.trans (hB.mono hv.size)
      clear hB c12 x0 x1 x2
      have hA3 := hA
      have hv3 := Below.refl w3.heap.size w3
      have hz8 := hv.size
      go_wp2_with fail
      obtain ⟨w4, hw4⟩ : ∃ w4, w3.alloc (.cells #[.int .u64 sd, .slice A1 chs.length k1, .slice A2 cks.length k2] 32) = w4 := ⟨_, rfl⟩
      try rw [hw4]
      have hB : Below w3.heap.size w3 w4 := by rw [← hw4]; exact (Below.refl _ w3).alloc (by first | exact Nat.le_refl _ | (simp; done) | (simp; omega)) _
      have ky : w4.heap[w3.heap.size]? = some (.cells #[.int .u64 sd, .slice A1 chs.length k1, .slice A2 cks.length k2] 32 (0, 0)) := by rw [← hw4]; exact al_new _ _ _ (by first | rfl | (simp; done) | (simp; omega))
      have y0 : w4.cell? ⟨w3.heap.size, 0, none⟩ = some (.int .u64 sd) := blk_cell ky 0
      have y1 : w4.cell? ⟨w3.heap.size, 1, none⟩ = some (.slice A1 chs.length k1) := blk_cell ky 1
      have y2 : w4.cell? ⟨w3.heap.size, 2, none⟩ = some (.slice A2 cks.length k2) := blk_cell ky 2
      replace hv3 := hv3.trans (hB.mono hv3.size)
      replace hA := hA.below hB
      replace hv := hv.trans (hB.mono hv.size)
      clear hB hw4
      refine (c30 _ _ _ _ _ hv hA).mono ?_
      rintro en w5 ⟨rfl, hB⟩
      replace hv3 := hv3.trans (hB.mono hv3.size)
      replace hA := hA.below hB
      replace ky := blk_on hB ky
      replace y0 := cell_on hB y0
      replace y1 := cell_on hB y1
      replace y2 := cell_on hB y2
      replace hv := hv.trans (hB.mono hv.size)
      clear hB c30
      have hz9 := blk_lt ky
      go_upto_region 5 with fail
      obtain ⟨w6, hw6⟩ : ∃ w6, w5.alloc (.cells #[.int .i64 lo, .int .i64 hi] 65) = w6 := ⟨_, rfl⟩
      try rw [hw6]
      have hB : Below w5.heap.size w5 w6 := by rw [← hw6]; exact (Below.refl _ w5).alloc (by first | exact Nat.le_refl _ | (simp; done) | (simp; omega)) _
      have krr : w6.heap[w5.heap.size]? = some (.cells #[.int .i64 lo, .int .i64 hi] 65 (0, 0)) := by rw [← hw6]; exact al_new _ _ _ (by first | rfl | (simp; done) | (simp; omega))
      have rr0 : w6.cell? ⟨w5.heap.size, 0, none⟩ = some (.int .i64 lo) := blk_cell krr 0
      have rr1 : w6.cell? ⟨w5.heap.size, 1, none⟩ = some (.int .i64 hi) := blk_cell krr 1
      replace hv3 := hv3.trans (hB.mono hv3.size)
      replace hA := hA.below hB
      replace ky := blk_on hB ky
      replace y0 := cell_on hB y0
      replace y1 := cell_on hB y1
      replace y2 := cell_on hB y2
      replace hv := hv.trans (hB.mono hv.size)
      clear hB hw6
      go_wp2_with fail
      refine (c34 _ _ _ _ _ hv hA).mono ?_
      rintro en w7 ⟨rfl, hB⟩
      replace hv3 := hv3.trans (hB.mono hv3.size)
      replace hA := hA.below hB
      replace ky := blk_on hB ky
      replace krr := blk_on hB krr
      replace y0 := cell_on hB y0
      replace y1 := cell_on hB y1
      replace y2 := cell_on hB y2
      replace rr0 := cell_on hB rr0
      replace rr1 := cell_on hB rr1
      replace hv := hv.trans (hB.mono hv.size)
      clear hB c34
      have hz7 := blk_lt krr
      go_upto_region 6 with fail
      obtain ⟨w8, hw8⟩ : ∃ w8, w7.alloc (.cells #[.int .i64 gl, .int .i64 gh] 65) = w8 := ⟨_, rfl⟩
      try rw [hw8]
      have hB : Below w7.heap.size w7 w8 := by rw [← hw8]; exact (Below.refl _ w7).alloc (by first | exact Nat.le_refl _ | (simp; done) | (simp; omega)) _
      have kgg : w8.heap[w7.heap.size]? = some (.cells #[.int .i64 gl, .int .i64 gh] 65 (0, 0)) := by rw [← hw8]; exact al_new _ _ _ (by first | rfl | (simp; done) | (simp; omega))
      have gg0 : w8.cell? ⟨w7.heap.size, 0, none⟩ = some (.int .i64 gl) := blk_cell kgg 0
      have gg1 : w8.cell? ⟨w7.heap.size, 1, none⟩ = some (.int .i64 gh) := blk_cell kgg 1
      replace hv3 := hv3.trans (hB.mono hv3.size)
      replace hA := hA.below hB
      replace ky := blk_on hB ky
      replace krr := blk_on hB krr
      replace y0 := cell_on hB y0
      replace y1 := cell_on hB y1
      replace y2 := cell_on hB y2
      replace rr0 := cell_on hB rr0
      replace rr1 := cell_on hB rr1
      replace hv := hv.trans (hB.mono hv.size)
      clear hB hw8
      have n35 : ¬ w5.heap.size = w3.heap.size := by omega
      have n37 : ¬ w7.heap.size = w3.heap.size := by omega
      have yf := blk_frozen ky 0
      go_upto_region 7 with fail
      obtain ⟨w9, hw9⟩ : ∃ w', w8.setCell ⟨w3.heap.size, 0, none⟩ (.int .u64 seed) = w' := ⟨_, rfl⟩
      rw [hw9]
      replace ky : w9.heap[w3.heap.size]? = some (.cells #[.int .u64 seed, .slice A1 chs.length k1, .slice A2 cks.length k2] 32 (0, 0)) := by rw [← hw9]; exact blk_put ky 0 _ rfl
      replace krr : w9.heap[w5.heap.size]? = some (.cells #[.int .i64 lo, .int .i64 hi] 65 (0, 0)) := by rw [← hw9]; exact blk_far krr (by simpa using n35) _
      replace kgg : w9.heap[w7.heap.size]? = some (.cells #[.int .i64 gl, .int .i64 gh] 65 (0, 0)) := by rw [← hw9]; exact blk_far kgg (by simpa using n37) _
      replace hv3 : Below w3.heap.size w3 w9 := by rw [← hw9]; exact hv3.setCell (by simp) _
      replace hv : Below w.heap.size w w9 := by rw [← hw9]; exact hv.setCell (by simp; omega) _
      replace hA := hA3.below hv3
      clear hw9 yf y0 y1 y2 rr0 rr1 gg0 gg1 hA3 hv3 n35 n37
      have y0 : w9.cell? ⟨w3.heap.size, 0, none⟩ = some (.int .u64 seed) := blk_cell ky 0
      have y1 : w9.cell? ⟨w3.heap.size, 1, none⟩ = some (.slice A1 chs.length k1) := blk_cell ky 1
      have y2 : w9.cell? ⟨w3.heap.size, 2, none⟩ = some (.slice A2 cks.length k2) := blk_cell ky 2
      have rr0 : w9.cell? ⟨w5.heap.size, 0, none⟩ = some (.int .i64 lo) := blk_cell krr 0
      have rr1 : w9.cell? ⟨w5.heap.size, 1, none⟩ = some (.int .i64 hi) := blk_cell krr 1
      have gg0 : w9.cell? ⟨w7.heap.size, 0, none⟩ = some (.int .i64 gl) := blk_cell kgg 0
      have gg1 : w9.cell? ⟨w7.heap.size, 1, none⟩ = some (.int .i64 gh) := blk_cell kgg 1
      clear ky krr kgg
      go_wp2_with fail
      refine (c21 _ _ _ _ _ hv hA).mono ?_
      rintro en w10 ⟨rfl, hB⟩
      replace hA := hA.below hB
      replace y0 := cell_on hB y0
      replace y1 := cell_on hB y1
      replace y2 := cell_on hB y2
      replace rr0 := cell_on hB rr0
      replace rr1 := cell_on hB rr1
      replace gg0 := cell_on hB gg0
      replace gg1 := cell_on hB gg1
      replace hv := hv.trans (hB.mono hv.size)
      clear hB c21
      go_wp2_with fail
      refine (aw _ hv).mono ?_
      rintro en w11 ⟨rfl, hB⟩
      replace hA := hA.below hB
      replace y0 := cell_on hB y0
      replace y1 := cell_on hB y1
      replace y2 := cell_on hB y2
      replace rr0 := cell_on hB rr0
      replace rr1 := cell_on hB rr1
      replace gg0 := cell_on hB gg0
      replace gg1 := cell_on hB gg1
      replace hv := hv.trans (hB.mono hv.size)
      clear hB aw
      go_wp2
      go_ret
      exact ⟨rfl, hv⟩
    have hrin := rin hE
    have hpa : phaseR seed chs cks k a = (phaseF seed chs cks k a, 0) := by unfold phaseR; rw [if_pos hE]
    have hpb := fun h => show phaseR seed chs cks k b = (phaseF seed chs cks k b, 0) by unfold phaseR; rw [if_pos h]
    have bpa := fun (h : errS chs cks k a = 0) => phase_b (seed := seed) h
    have bpb := fun (h : errS chs cks k b = 0) => phase_b (seed := seed) h
    rw [hE] at c30
    clear rin
    by_cases hN : errN chs cks k a = 0
    · have hS : shownR seed chs cks k a = (shownF seed chs cks k a, 0) := by unfold shownR; rw [if_pos hN]
      rw [hS] at c21
      simp only at c21
      clear hS hN
      generalize shownF seed chs cks k a = N at *
      have e1 : decide (N < lo) = false := decide_eq_false (by omega)
      have e2 : decide (N > hi) = false := decide_eq_false (by omega)
      have e2' : decide (hi < N) = false := decide_eq_false (by omega)
      have e3 : decide (lo ≤ -400000000000000) = false := decide_eq_false (by omega)
      have e4 : decide (hi ≥ 400000000000000) = false := decide_eq_false (by omega)
      have e4' : decide (400000000000000 ≤ hi) = false := decide_eq_false (by omega)
      clear hrin
      by_cases hG : errG chs cks k a b = 0
      · obtain ⟨_, hEb, g1, g2⟩ := gin hG
        rw [hpa] at p1
        rw [hpb hEb] at p2
        simp only at p1 p2
        have b1 := bpa hE
        have b2 := bpb hEb
        rw [hG] at c34
        clear gin hpa hpb bpa bpb hE hEb hG
        generalize phaseF seed chs cks k a = PA at *
        generalize phaseF seed chs cks k b = PB at *
        have f0 : IntKind.i64.wrap (PB - PA) = PB - PA := C.wr _ (by omega) (by omega)
        have f1 : decide (PB - PA < gl) = false := decide_eq_false (by omega)
        have f2 : decide (PB - PA > gh) = false := decide_eq_false (by omega)
        have f2' : decide (gh < PB - PA) = false := decide_eq_false (by omega)
        clear g1 g2 b1 b2
        go_enter Tryd.func7, Tryd.ntmps7
        go_wp2_with fail
        obtain ⟨w1, hw1⟩ : ∃ w1, w.alloc (.cells #[.int .u64 sd, .slice Ah chs.length hc, .slice Ak cks.length kc] 26) = w1 := ⟨_, rfl⟩
        try rw [hw1]
        have hB : Below w.heap.size w w1 := by rw [← hw1]; exact (Below.refl _ w).alloc (by first | exact Nat.le_refl _ | (simp; done) | (simp; omega)) _
        have kx : w1.heap[w.heap.size]? = some (.cells #[.int .u64 sd, .slice Ah chs.length hc, .slice Ak cks.length kc] 26 (0, 0)) := by rw [← hw1]; exact al_new _ _ _ (by first | rfl | (simp; done) | (simp; omega))
        have x0 : w1.cell? ⟨w.heap.size, 0, none⟩ = some (.int .u64 sd) := blk_cell kx 0
        have x1 : w1.cell? ⟨w.heap.size, 1, none⟩ = some (.slice Ah chs.length hc) := blk_cell kx 1
        have x2 : w1.cell? ⟨w.heap.size, 2, none⟩ = some (.slice Ak cks.length kc) := blk_cell kx 2
        clear kx
        replace hv := hv.trans (hB.mono hv.size)
        clear hB hw1
        refine (c10 _ hv).mono ?_
        rintro en w2 ⟨rfl, hB⟩
        replace x0 := cell_on hB x0
        replace x1 := cell_on hB x1
        replace x2 := cell_on hB x2
        replace hv := hv.trans (hB.mono hv.size)
        clear hB c10
        go_wp2_with fail
        refine (c12 _ hv).mono ?_
        rintro en w3 ⟨A1, k1, A2, k2, rfl, hA, hB⟩
        replace x0 := cell_on hB x0
        replace x1 := cell_on hB x1
        replace x2 := cell_on hB x2
        replace hv := hv.trans (hB.mono hv.size)
        clear hB c12 x0 x1 x2
        have hA3 := hA
        have hv3 := Below.refl w3.heap.size w3
        have hz8 := hv.size
        go_wp2_with fail
        obtain ⟨w4, hw4⟩ : ∃ w4, w3.alloc (.cells #[.int .u64 sd, .slice A1 chs.length k1, .slice A2 cks.length k2] 32) = w4 := ⟨_, rfl⟩
        try rw [hw4]
        have hB : Below w3.heap.size w3 w4 := by rw [← hw4]; exact (Below.refl _ w3).alloc (by first | exact Nat.le_refl _ | (simp; done) | (simp; omega)) _
        have ky : w4.heap[w3.heap.size]? = some (.cells #[.int .u64 sd, .slice A1 chs.length k1, .slice A2 cks.length k2] 32 (0, 0)) := by rw [← hw4]; exact al_new _ _ _ (by first | rfl | (simp; done) | (simp; omega))
        have y0 : w4.cell? ⟨w3.heap.size, 0, none⟩ = some (.int .u64 sd) := blk_cell ky 0
        have y1 : w4.cell? ⟨w3.heap.size, 1, none⟩ = some (.slice A1 chs.length k1) := blk_cell ky 1
        have y2 : w4.cell? ⟨w3.heap.size, 2, none⟩ = some (.slice A2 cks.length k2) := blk_cell ky 2
        replace hv3 := hv3.trans (hB.mono hv3.size)
        replace hA := hA.below hB
        replace hv := hv.trans (hB.mono hv.size)
        clear hB hw4
        refine (c30 _ _ _ _ _ hv hA).mono ?_
        rintro en w5 ⟨rfl, hB⟩
        replace hv3 := hv3.trans (hB.mono hv3.size)
        replace hA := hA.below hB
        replace ky := blk_on hB ky
        replace y0 := cell_on hB y0
        replace y1 := cell_on hB y1
        replace y2 := cell_on hB y2
        replace hv := hv.trans (hB.mono hv.size)
        clear hB c30
        have hz9 := blk_lt ky
        go_upto_region 5 with fail
        obtain ⟨w6, hw6⟩ : ∃ w6, w5.alloc (.cells #[.int .i64 lo, .int .i64 hi] 65) = w6 := ⟨_, rfl⟩
        try rw [hw6]
        have hB : Below w5.heap.size w5 w6 := by rw [← hw6]; exact (Below.refl _ w5).alloc (by first | exact Nat.le_refl _ | (simp; done) | (simp; omega)) _
        have krr : w6.heap[w5.heap.size]? = some (.cells #[.int .i64 lo, .int .i64 hi] 65 (0, 0)) := by rw [← hw6]; exact al_new _ _ _ (by first | rfl | (simp; done) | (simp; omega))
        have rr0 : w6.cell? ⟨w5.heap.size, 0, none⟩ = some (.int .i64 lo) := blk_cell krr 0
        have rr1 : w6.cell? ⟨w5.heap.size, 1, none⟩ = some (.int .i64 hi) := blk_cell krr 1
        replace hv3 := hv3.trans (hB.mono hv3.size)
        replace hA := hA.below hB
        replace ky := blk_on hB ky
        replace y0 := cell_on hB y0
        replace y1 := cell_on hB y1
        replace y2 := cell_on hB y2
        replace hv := hv.trans (hB.mono hv.size)
        clear hB hw6
        go_wp2_with fail
        refine (c34 _ _ _ _ _ hv hA).mono ?_
        rintro en w7 ⟨rfl, hB⟩
        replace hv3 := hv3.trans (hB.mono hv3.size)
        replace hA := hA.below hB
        replace ky := blk_on hB ky
        replace krr := blk_on hB krr
        replace y0 := cell_on hB y0
        replace y1 := cell_on hB y1
        replace y2 := cell_on hB y2
        replace rr0 := cell_on hB rr0
        replace rr1 := cell_on hB rr1
        replace hv := hv.trans (hB.mono hv.size)
        clear hB c34
        have hz7 := blk_lt krr
        go_upto_region 6 with fail
        obtain ⟨w8, hw8⟩ : ∃ w8, w7.alloc (.cells #[.int .i64 gl, .int .i64 gh] 65) = w8 := ⟨_, rfl⟩
        try rw [hw8]
        have hB : Below w7.heap.size w7 w8 := by rw [← hw8]; exact (Below.refl _ w7).alloc (by first | exact Nat.le_refl _ | (simp; done) | (simp; omega)) _
        have kgg : w8.heap[w7.heap.size]? = some (.cells #[.int .i64 gl, .int .i64 gh] 65 (0, 0)) := by rw [← hw8]; exact al_new _ _ _ (by first | rfl | (simp; done) | (simp; omega))
        have gg0 : w8.cell? ⟨w7.heap.size, 0, none⟩ = some (.int .i64 gl) := blk_cell kgg 0
        have gg1 : w8.cell? ⟨w7.heap.size, 1, none⟩ = some (.int .i64 gh) := blk_cell kgg 1
        replace hv3 := hv3.trans (hB.mono hv3.size)
        replace hA := hA.below hB
        replace ky := blk_on hB ky
        replace krr := blk_on hB krr
        replace y0 := cell_on hB y0
        replace y1 := cell_on hB y1
        replace y2 := cell_on hB y2
        replace rr0 := cell_on hB rr0
        replace rr1 := cell_on hB rr1
        replace hv := hv.trans (hB.mono hv.size)
        clear hB hw8
        have n35 : ¬ w5.heap.size = w3.heap.size := by omega
        have n37 : ¬ w7.heap.size = w3.heap.size := by omega
        have yf := blk_frozen ky 0
        go_upto_region 7 with fail
        obtain ⟨w9, hw9⟩ : ∃ w', w8.setCell ⟨w3.heap.size, 0, none⟩ (.int .u64 seed) = w' := ⟨_, rfl⟩
        rw [hw9]
        replace ky : w9.heap[w3.heap.size]? = some (.cells #[.int .u64 seed, .slice A1 chs.length k1, .slice A2 cks.length k2] 32 (0, 0)) := by rw [← hw9]; exact blk_put ky 0 _ rfl
        replace krr : w9.heap[w5.heap.size]? = some (.cells #[.int .i64 lo, .int .i64 hi] 65 (0, 0)) := by rw [← hw9]; exact blk_far krr (by simpa using n35) _
        replace kgg : w9.heap[w7.heap.size]? = some (.cells #[.int .i64 gl, .int .i64 gh] 65 (0, 0)) := by rw [← hw9]; exact blk_far kgg (by simpa using n37) _
        replace hv3 : Below w3.heap.size w3 w9 := by rw [← hw9]; exact hv3.setCell (by simp) _
        replace hv : Below w.heap.size w w9 := by rw [← hw9]; exact hv.setCell (by simp; omega) _
        replace hA := hA3.below hv3
        clear hw9 yf y0 y1 y2 rr0 rr1 gg0 gg1 hA3 hv3 n35 n37
        have y0 : w9.cell? ⟨w3.heap.size, 0, none⟩ = some (.int .u64 seed) := blk_cell ky 0
        have y1 : w9.cell? ⟨w3.heap.size, 1, none⟩ = some (.slice A1 chs.length k1) := blk_cell ky 1
        have y2 : w9.cell? ⟨w3.heap.size, 2, none⟩ = some (.slice A2 cks.length k2) := blk_cell ky 2
        have rr0 : w9.cell? ⟨w5.heap.size, 0, none⟩ = some (.int .i64 lo) := blk_cell krr 0
        have rr1 : w9.cell? ⟨w5.heap.size, 1, none⟩ = some (.int .i64 hi) := blk_cell krr 1
        have gg0 : w9.cell? ⟨w7.heap.size, 0, none⟩ = some (.int .i64 gl) := blk_cell kgg 0
        have gg1 : w9.cell? ⟨w7.heap.size, 1, none⟩ = some (.int .i64 gh) := blk_cell kgg 1
        clear ky krr kgg
        go_wp2_with fail
        refine (c21 _ _ _ _ _ hv hA).mono ?_
        rintro en w10 ⟨rfl, hB⟩
        replace hA := hA.below hB
        replace y0 := cell_on hB y0
        replace y1 := cell_on hB y1
        replace y2 := cell_on hB y2
        replace rr0 := cell_on hB rr0
        replace rr1 := cell_on hB rr1
        replace gg0 := cell_on hB gg0
        replace gg1 := cell_on hB gg1
        replace hv := hv.trans (hB.mono hv.size)
        clear hB c21
        go_wp2_with fail
        refine (p1 _ _ _ _ _ hv hA).mono ?_
        rintro en w11 ⟨rfl, hB⟩
        replace hA := hA.below hB
        replace y0 := cell_on hB y0
        replace y1 := cell_on hB y1
        replace y2 := cell_on hB y2
        replace rr0 := cell_on hB rr0
        replace rr1 := cell_on hB rr1
        replace gg0 := cell_on hB gg0
        replace gg1 := cell_on hB gg1
        replace hv := hv.trans (hB.mono hv.size)
        clear hB p1
        go_wp2_with fail
        refine (p2 _ _ _ _ _ hv hA).mono ?_
        rintro en w12 ⟨rfl, hB⟩
        replace hA := hA.below hB
        replace y0 := cell_on hB y0
        replace y1 := cell_on hB y1
        replace y2 := cell_on hB y2
        replace rr0 := cell_on hB rr0
        replace rr1 := cell_on hB rr1
        replace gg0 := cell_on hB gg0
        replace gg1 := cell_on hB gg1
        replace hv := hv.trans (hB.mono hv.size)
        clear hB p2
        go_wp2_with fail
        refine (aw _ hv).mono ?_
        rintro en w13 ⟨rfl, hB⟩
        replace hA := hA.below hB
        replace y0 := cell_on hB y0
        replace y1 := cell_on hB y1
        replace y2 := cell_on hB y2
        replace rr0 := cell_on hB rr0
        replace rr1 := cell_on hB rr1
        replace gg0 := cell_on hB gg0
        replace gg1 := cell_on hB gg1
        replace hv := hv.trans (hB.mono hv.size)
        clear hB aw
        go_wp2
        go_ret
        exact ⟨rfl, hv⟩
      · clear gin hpa hpb bpa bpb hE p1 p2
        generalize errG chs cks k a b = G at *
        have d2 : (G == 0) = false := beq_eq_false_iff_ne.2 hG
        clear hG
        go_enter Tryd.func7, Tryd.ntmps7
        go_wp2_with fail
        obtain ⟨w1, hw1⟩ : ∃ w1, w.alloc (.cells #[.int .u64 sd, .slice Ah chs.length hc, .slice Ak cks.length kc] 26) = w1 := ⟨_, rfl⟩
        try rw [hw1]
        have hB : Below w.heap.size w w1 := by rw [← hw1]; exact (Below.refl _ w).alloc (by first | exact Nat.le_refl _ | (simp; done) | (simp; omega)) _
        have kx : w1.heap[w.heap.size]? = some (.cells #[.int .u64 sd, .slice Ah chs.length hc, .slice Ak cks.length kc] 26 (0, 0)) := by rw [← hw1]; exact al_new _ _ _ (by first | rfl | (simp; done) | (simp; omega))
        have x0 : w1.cell? ⟨w.heap.size, 0, none⟩ = some (.int .u64 sd) := blk_cell kx 0
        have x1 : w1.cell? ⟨w.heap.size, 1, none⟩ = some (.slice Ah chs.length hc) := blk_cell kx 1
        have x2 : w1.cell? ⟨w.heap.size, 2, none⟩ = some (.slice Ak cks.length kc) := blk_cell kx 2
        clear kx
        replace hv := hv.trans (hB.mono hv.size)
        clear hB hw1
        refine (c10 _ hv).mono ?_
        rintro en w2 ⟨rfl, hB⟩
        replace x0 := cell_on hB x0
        replace x1 := cell_on hB x1
        replace x2 := cell_on hB x2
        replace hv := hv.trans (hB.mono hv.size)
        clear hB c10
        go_wp2_with fail
        refine (c12 _ hv).mono ?_
        rintro en w3 ⟨A1, k1, A2, k2, rfl, hA, hB⟩
        replace x0 := cell_on hB x0
        replace x1 := cell_on hB x1
        replace x2 := cell_on hB x2
        replace hv := hv.trans (hB.mono hv.size)
        clear hB c12 x0 x1 x2
        have hA3 := hA
        have hv3 := Below.refl w3.heap.size w3
        have hz8 := hv.size
        go_wp2_with fail
        obtain ⟨w4, hw4⟩ : ∃ w4, w3.alloc (.cells #[.int .u64 sd, .slice A1 chs.length k1, .slice A2 cks.length k2] 32) = w4 := ⟨_, rfl⟩
        try rw [hw4]
        have hB : Below w3.heap.size w3 w4 := by rw [← hw4]; exact (Below.refl _ w3).alloc (by first | exact Nat.le_refl _ | (simp; done) | (simp; omega)) _
        have ky : w4.heap[w3.heap.size]? = some (.cells #[.int .u64 sd, .slice A1 chs.length k1, .slice A2 cks.length k2] 32 (0, 0)) := by rw [← hw4]; exact al_new _ _ _ (by first | rfl | (simp; done) | (simp; omega))
        have y0 : w4.cell? ⟨w3.heap.size, 0, none⟩ = some (.int .u64 sd) := blk_cell ky 0
        have y1 : w4.cell? ⟨w3.heap.size, 1, none⟩ = some (.slice A1 chs.length k1) := blk_cell ky 1
        have y2 : w4.cell? ⟨w3.heap.size, 2, none⟩ = some (.slice A2 cks.length k2) := blk_cell ky 2
        replace hv3 := hv3.trans (hB.mono hv3.size)
        replace hA := hA.below hB
        replace hv := hv.trans (hB.mono hv.size)
        clear hB hw4
        refine (c30 _ _ _ _ _ hv hA).mono ?_
        rintro en w5 ⟨rfl, hB⟩
        replace hv3 := hv3.trans (hB.mono hv3.size)
        replace hA := hA.below hB
        replace ky := blk_on hB ky
        replace y0 := cell_on hB y0
        replace y1 := cell_on hB y1
        replace y2 := cell_on hB y2
        replace hv := hv.trans (hB.mono hv.size)
        clear hB c30
        have hz9 := blk_lt ky
        go_upto_region 5 with fail
        obtain ⟨w6, hw6⟩ : ∃ w6, w5.alloc (.cells #[.int .i64 lo, .int .i64 hi] 65) = w6 := ⟨_, rfl⟩
        try rw [hw6]
        have hB : Below w5.heap.size w5 w6 := by rw [← hw6]; exact (Below.refl _ w5).alloc (by first | exact Nat.le_refl _ | (simp; done) | (simp; omega)) _
        have krr : w6.heap[w5.heap.size]? = some (.cells #[.int .i64 lo, .int .i64 hi] 65 (0, 0)) := by rw [← hw6]; exact al_new _ _ _ (by first | rfl | (simp; done) | (simp; omega))
        have rr0 : w6.cell? ⟨w5.heap.size, 0, none⟩ = some (.int .i64 lo) := blk_cell krr 0
        have rr1 : w6.cell? ⟨w5.heap.size, 1, none⟩ = some (.int .i64 hi) := blk_cell krr 1
        replace hv3 := hv3.trans (hB.mono hv3.size)
        replace hA := hA.below hB
        replace ky := blk_on hB ky
        replace y0 := cell_on hB y0
        replace y1 := cell_on hB y1
        replace y2 := cell_on hB y2
        replace hv := hv.trans (hB.mono hv.size)
        clear hB hw6
        go_wp2_with fail
        refine (c34 _ _ _ _ _ hv hA).mono ?_
        rintro en w7 ⟨rfl, hB⟩
        replace hv3 := hv3.trans (hB.mono hv3.size)
        replace hA := hA.below hB
        replace ky := blk_on hB ky
        replace krr := blk_on hB krr
        replace y0 := cell_on hB y0
        replace y1 := cell_on hB y1
        replace y2 := cell_on hB y2
        replace rr0 := cell_on hB rr0
        replace rr1 := cell_on hB rr1
        replace hv := hv.trans (hB.mono hv.size)
        clear hB c34
        have hz7 := blk_lt krr
        go_upto_region 6 with fail
        obtain ⟨w8, hw8⟩ : ∃ w8, w7.alloc (.cells #[.int .i64 gl, .int .i64 gh] 65) = w8 := ⟨_, rfl⟩
        try rw [hw8]
        have hB : Below w7.heap.size w7 w8 := by rw [← hw8]; exact (Below.refl _ w7).alloc (by first | exact Nat.le_refl _ | (simp; done) | (simp; omega)) _
        have kgg : w8.heap[w7.heap.size]? = some (.cells #[.int .i64 gl, .int .i64 gh] 65 (0, 0)) := by rw [← hw8]; exact al_new _ _ _ (by first | rfl | (simp; done) | (simp; omega))
        have gg0 : w8.cell? ⟨w7.heap.size, 0, none⟩ = some (.int .i64 gl) := blk_cell kgg 0
        have gg1 : w8.cell? ⟨w7.heap.size, 1, none⟩ = some (.int .i64 gh) := blk_cell kgg 1
        replace hv3 := hv3.trans (hB.mono hv3.size)
        replace hA := hA.below hB
        replace ky := blk_on hB ky
        replace krr := blk_on hB krr
        replace y0 := cell_on hB y0
        replace y1 := cell_on hB y1
        replace y2 := cell_on hB y2
        replace rr0 := cell_on hB rr0
        replace rr1 := cell_on hB rr1
        replace hv := hv.trans (hB.mono hv.size)
        clear hB hw8
        have n35 : ¬ w5.heap.size = w3.heap.size := by omega
        have n37 : ¬ w7.heap.size = w3.heap.size := by omega
        have yf := blk_frozen ky 0
        go_upto_region 7 with fail
        obtain ⟨w9, hw9⟩ : ∃ w', w8.setCell ⟨w3.heap.size, 0, none⟩ (.int .u64 seed) = w' := ⟨_, rfl⟩
        rw [hw9]
        replace ky : w9.heap[w3.heap.size]? = some (.cells #[.int .u64 seed, .slice A1 chs.length k1, .slice A2 cks.length k2] 32 (0, 0)) := by rw [← hw9]; exact blk_put ky 0 _ rfl
        replace krr : w9.heap[w5.heap.size]? = some (.cells #[.int .i64 lo, .int .i64 hi] 65 (0, 0)) := by rw [← hw9]; exact blk_far krr (by simpa using n35) _
        replace kgg : w9.heap[w7.heap.size]? = some (.cells #[.int .i64 gl, .int .i64 gh] 65 (0, 0)) := by rw [← hw9]; exact blk_far kgg (by simpa using n37) _
        replace hv3 : Below w3.heap.size w3 w9 := by rw [← hw9]; exact hv3.setCell (by simp) _
        replace hv : Below w.heap.size w w9 := by rw [← hw9]; exact hv.setCell (by simp; omega) _
        replace hA := hA3.below hv3
        clear hw9 yf y0 y1 y2 rr0 rr1 gg0 gg1 hA3 hv3 n35 n37
        have y0 : w9.cell? ⟨w3.heap.size, 0, none⟩ = some (.int .u64 seed) := blk_cell ky 0
        have y1 : w9.cell? ⟨w3.heap.size, 1, none⟩ = some (.slice A1 chs.length k1) := blk_cell ky 1
        have y2 : w9.cell? ⟨w3.heap.size, 2, none⟩ = some (.slice A2 cks.length k2) := blk_cell ky 2
        have rr0 : w9.cell? ⟨w5.heap.size, 0, none⟩ = some (.int .i64 lo) := blk_cell krr 0
        have rr1 : w9.cell? ⟨w5.heap.size, 1, none⟩ = some (.int .i64 hi) := blk_cell krr 1
        have gg0 : w9.cell? ⟨w7.heap.size, 0, none⟩ = some (.int .i64 gl) := blk_cell kgg 0
        have gg1 : w9.cell? ⟨w7.heap.size, 1, none⟩ = some (.int .i64 gh) := blk_cell kgg 1
        clear ky krr kgg
        go_wp2_with fail
        refine (c21 _ _ _ _ _ hv hA).mono ?_
        rintro en w10 ⟨rfl, hB⟩
        replace hA := hA.below hB
        replace y0 := cell_on hB y0
        replace y1 := cell_on hB y1
        replace y2 := cell_on hB y2
        replace rr0 := cell_on hB rr0
        replace rr1 := cell_on hB rr1
        replace gg0 := cell_on hB gg0
        replace gg1 := cell_on hB gg1
        replace hv := hv.trans (hB.mono hv.size)
        clear hB c21
        go_wp2_with fail
        refine (aw _ hv).mono ?_
        rintro en w11 ⟨rfl, hB⟩
        replace hA := hA.below hB
        replace y0 := cell_on hB y0
        replace y1 := cell_on hB y1
        replace y2 := cell_on hB y2
        replace rr0 := cell_on hB rr0
        replace rr1 := cell_on hB rr1
        replace gg0 := cell_on hB gg0
        replace gg1 := cell_on hB gg1
        replace hv := hv.trans (hB.mono hv.size)
        clear hB aw
        go_wp2
        go_ret
        exact ⟨rfl, hv⟩
    · have hS : shownR seed chs cks k a = (0, errN chs cks k a) := by unfold shownR; rw [if_neg hN]
      rw [hS] at c21
      simp only at c21
      clear hS hrin
      generalize errN chs cks k a = H at *
      have d1 : (H == 0) = false := beq_eq_false_iff_ne.2 hN
      clear hN
      by_cases hG : errG chs cks k a b = 0
      · obtain ⟨_, hEb, g1, g2⟩ := gin hG
        rw [hpa] at p1
        rw [hpb hEb] at p2
        simp only at p1 p2
        have b1 := bpa hE
        have b2 := bpb hEb
        rw [hG] at c34
        clear gin hpa hpb bpa bpb hE hEb hG
        generalize phaseF seed chs cks k a = PA at *
        generalize phaseF seed chs cks k b = PB at *
        have f0 : IntKind.i64.wrap (PB - PA) = PB - PA := C.wr _ (by omega) (by omega)
        have f1 : decide (PB - PA < gl) = false := decide_eq_false (by omega)
        have f2 : decide (PB - PA > gh) = false := decide_eq_false (by omega)
        have f2' : decide (gh < PB - PA) = false := decide_eq_false (by omega)
        clear g1 g2 b1 b2
        go_enter Tryd.func7, Tryd.ntmps7
        go_wp2_with fail
        obtain ⟨w1, hw1⟩ : ∃ w1, w.alloc (.cells #[.int .u64 sd, .slice Ah chs.length hc, .slice Ak cks.length kc] 26) = w1 := ⟨_, rfl⟩
        try rw [hw1]
        have hB : Below w.heap.size w w1 := by rw [← hw1]; exact (Below.refl _ w).alloc (by first | exact Nat.le_refl _ | (simp; done) | (simp; omega)) _
        have kx : w1.heap[w.heap.size]? = some (.cells #[.int .u64 sd, .slice Ah chs.length hc, .slice Ak cks.length kc] 26 (0, 0)) := by rw [← hw1]; exact al_new _ _ _ (by first | rfl | (simp; done) | (simp; omega))
        have x0 : w1.cell? ⟨w.heap.size, 0, none⟩ = some (.int .u64 sd) := blk_cell kx 0
        have x1 : w1.cell? ⟨w.heap.size, 1, none⟩ = some (.slice Ah chs.length hc) := blk_cell kx 1
        have x2 : w1.cell? ⟨w.heap.size, 2, none⟩ = some (.slice Ak cks.length kc) := blk_cell kx 2
        clear kx
        replace hv := hv.trans (hB.mono hv.size)
        clear hB hw1
        refine (c10 _ hv).mono ?_
        rintro en w2 ⟨rfl, hB⟩
        replace x0 := cell_on hB x0
        replace x1 := cell_on hB x1
        replace x2 := cell_on hB x2
        replace hv := hv.trans (hB.mono hv.size)
        clear hB c10
        go_wp2_with fail
        refine (c12 _ hv).mono ?_
        rintro en w3 ⟨A1, k1, A2, k2, rfl, hA, hB⟩
        replace x0 := cell_on hB x0
        replace x1 := cell_on hB x1
        replace x2 := cell_on hB x2
        replace hv := hv.trans (hB.mono hv.size)
        clear hB c12 x0 x1 x2
        have hA3 := hA
        have hv3 := Below.refl w3.heap.size w3
        have hz8 := hv.size
        go_wp2_with fail
        obtain ⟨w4, hw4⟩ : ∃ w4, w3.alloc (.cells #[.int .u64 sd, .slice A1 chs.length k1, .slice A2 cks.length k2] 32) = w4 := ⟨_, rfl⟩
        try rw [hw4]
        have hB : Below w3.heap.size w3 w4 := by rw [← hw4]; exact (Below.refl _ w3).alloc (by first | exact Nat.le_refl _ | (simp; done) | (simp; omega)) _
        have ky : w4.heap[w3.heap.size]? = some (.cells #[.int .u64 sd, .slice A1 chs.length k1, .slice A2 cks.length k2] 32 (0, 0)) := by rw [← hw4]; exact al_new _ _ _ (by first | rfl | (simp; done) | (simp; omega))
        have y0 : w4.cell? ⟨w3.heap.size, 0, none⟩ = some (.int .u64 sd) := blk_cell ky 0
        have y1 : w4.cell? ⟨w3.heap.size, 1, none⟩ = some (.slice A1 chs.length k1) := blk_cell ky 1
        have y2 : w4.cell? ⟨w3.heap.size, 2, none⟩ = some (.slice A2 cks.length k2) := blk_cell ky 2
        replace hv3 := hv3.trans (hB.mono hv3.size)
        replace hA := hA.below hB
        replace hv := hv.trans (hB.mono hv.size)
        clear hB hw4
        refine (c30 _ _ _ _ _ hv hA).mono ?_
        rintro en w5 ⟨rfl, hB⟩
        replace hv3 := hv3.trans (hB.mono hv3.size)
        replace hA := hA.below hB
        replace ky := blk_on hB ky
        replace y0 := cell_on hB y0
        replace y1 := cell_on hB y1
        replace y2 := cell_on hB y2
        replace hv := hv.trans (hB.mono hv.size)
        clear hB c30
        have hz9 := blk_lt ky
        go_upto_region 5 with fail
        obtain ⟨w6, hw6⟩ : ∃ w6, w5.alloc (.cells #[.int .i64 lo, .int .i64 hi] 65) = w6 := ⟨_, rfl⟩
        try rw [hw6]
        have hB : Below w5.heap.size w5 w6 := by rw [← hw6]; exact (Below.refl _ w5).alloc (by first | exact Nat.le_refl _ | (simp; done) | (simp; omega)) _
        have krr : w6.heap[w5.heap.size]? = some (.cells #[.int .i64 lo, .int .i64 hi] 65 (0, 0)) := by rw [← hw6]; exact al_new _ _ _ (by first | rfl | (simp; done) | (simp; omega))
        have rr0 : w6.cell? ⟨w5.heap.size, 0, none⟩ = some (.int .i64 lo) := blk_cell krr 0
        have rr1 : w6.cell? ⟨w5.heap.size, 1, none⟩ = some (.int .i64 hi) := blk_cell krr 1
        replace hv3 := hv3.trans (hB.mono hv3.size)
        replace hA := hA.below hB
        replace ky := blk_on hB ky
        replace y0 := cell_on hB y0
        replace y1 := cell_on hB y1
        replace y2 := cell_on hB y2
        replace hv := hv.trans (hB.mono hv.size)
        clear hB hw6
        go_wp2_with fail
        refine (c34 _ _ _ _ _ hv hA).mono ?_
        rintro en w7 ⟨rfl, hB⟩
        replace hv3 := hv3.trans (hB.mono hv3.size)
        replace hA := hA.below hB
        replace ky := blk_on hB ky
        replace krr := blk_on hB krr
        replace y0 := cell_on hB y0
        replace y1 := cell_on hB y1
        replace y2 := cell_on hB y2
        replace rr0 := cell_on hB rr0
        replace rr1 := cell_on hB rr1
        replace hv := hv.trans (hB.mono hv.size)
        clear hB c34
        have hz7 := blk_lt krr
        go_upto_region 6 with fail
        obtain ⟨w8, hw8⟩ : ∃ w8, w7.alloc (.cells #[.int .i64 gl, .int .i64 gh] 65) = w8 := ⟨_, rfl⟩
        try rw [hw8]
        have hB : Below w7.heap.size w7 w8 := by rw [← hw8]; exact (Below.refl _ w7).alloc (by first | exact Nat.le_refl _ | (simp; done) | (simp; omega)) _
        have kgg : w8.heap[w7.heap.size]? = some (.cells #[.int .i64 gl, .int .i64 gh] 65 (0, 0)) := by rw [← hw8]; exact al_new _ _ _ (by first | rfl | (simp; done) | (simp; omega))
        have gg0 : w8.cell? ⟨w7.heap.size, 0, none⟩ = some (.int .i64 gl) := blk_cell kgg 0
        have gg1 : w8.cell? ⟨w7.heap.size, 1, none⟩ = some (.int .i64 gh) := blk_cell kgg 1
        replace hv3 := hv3.trans (hB.mono hv3.size)
        replace hA := hA.below hB
        replace ky := blk_on hB ky
        replace krr := blk_on hB krr
        replace y0 := cell_on hB y0
        replace y1 := cell_on hB y1
        replace y2 := cell_on hB y2
        replace rr0 := cell_on hB rr0
        replace rr1 := cell_on hB rr1
        replace hv := hv.trans (hB.mono hv.size)
        clear hB hw8
        have n35 : ¬ w5.heap.size = w3.heap.size := by omega
        have n37 : ¬ w7.heap.size = w3.heap.size := by omega
        have yf := blk_frozen ky 0
        go_upto_region 7 with fail
        obtain ⟨w9, hw9⟩ : ∃ w', w8.setCell ⟨w3.heap.size, 0, none⟩ (.int .u64 seed) = w' := ⟨_, rfl⟩
        rw [hw9]
        replace ky : w9.heap[w3.heap.size]? = some (.cells #[.int .u64 seed, .slice A1 chs.length k1, .slice A2 cks.length k2] 32 (0, 0)) := by rw [← hw9]; exact blk_put ky 0 _ rfl
        replace krr : w9.heap[w5.heap.size]? = some (.cells #[.int .i64 lo, .int .i64 hi] 65 (0, 0)) := by rw [← hw9]; exact blk_far krr (by simpa using n35) _
        replace kgg : w9.heap[w7.heap.size]? = some (.cells #[.int .i64 gl, .int .i64 gh] 65 (0, 0)) := by rw [← hw9]; exact blk_far kgg (by simpa using n37) _
        replace hv3 : Below w3.heap.size w3 w9 := by rw [← hw9]; exact hv3.setCell (by simp) _
        replace hv : Below w.heap.size w w9 := by rw [← hw9]; exact hv.setCell (by simp; omega) _
        replace hA := hA3.below hv3
        clear hw9 yf y0 y1 y2 rr0 rr1 gg0 gg1 hA3 hv3 n35 n37
        have y0 : w9.cell? ⟨w3.heap.size, 0, none⟩ = some (.int .u64 seed) := blk_cell ky 0
        have y1 : w9.cell? ⟨w3.heap.size, 1, none⟩ = some (.slice A1 chs.length k1) := blk_cell ky 1
        have y2 : w9.cell? ⟨w3.heap.size, 2, none⟩ = some (.slice A2 cks.length k2) := blk_cell ky 2
        have rr0 : w9.cell? ⟨w5.heap.size, 0, none⟩ = some (.int .i64 lo) := blk_cell krr 0
        have rr1 : w9.cell? ⟨w5.heap.size, 1, none⟩ = some (.int .i64 hi) := blk_cell krr 1
        have gg0 : w9.cell? ⟨w7.heap.size, 0, none⟩ = some (.int .i64 gl) := blk_cell kgg 0
        have gg1 : w9.cell? ⟨w7.heap.size, 1, none⟩ = some (.int .i64 gh) := blk_cell kgg 1
        clear ky krr kgg
        go_wp2_with fail
        refine (c21 _ _ _ _ _ hv hA).mono ?_
        rintro en w10 ⟨rfl, hB⟩
        replace hA := hA.below hB
        replace y0 := cell_on hB y0
        replace y1 := cell_on hB y1
        replace y2 := cell_on hB y2
        replace rr0 := cell_on hB rr0
        replace rr1 := cell_on hB rr1
        replace gg0 := cell_on hB gg0
        replace gg1 := cell_on hB gg1
        replace hv := hv.trans (hB.mono hv.size)
        clear hB c21
        go_wp2_with fail
        refine (p1 _ _ _ _ _ hv hA).mono ?_
        rintro en w11 ⟨rfl, hB⟩
        replace hA := hA.below hB
        replace y0 := cell_on hB y0
        replace y1 := cell_on hB y1
        replace y2 := cell_on hB y2
        replace rr0 := cell_on hB rr0
        replace rr1 := cell_on hB rr1
        replace gg0 := cell_on hB gg0
        replace gg1 := cell_on hB gg1
        replace hv := hv.trans (hB.mono hv.size)
        clear hB p1
        go_wp2_with fail
        refine (p2 _ _ _ _ _ hv hA).mono ?_
        rintro en w12 ⟨rfl, hB⟩
        replace hA := hA.below hB
        replace y0 := cell_on hB y0
        replace y1 := cell_on hB y1
        replace y2 := cell_on hB y2
        replace rr0 := cell_on hB rr0
        replace rr1 := cell_on hB rr1
        replace gg0 := cell_on hB gg0
        replace gg1 := cell_on hB gg1
        replace hv := hv.trans (hB.mono hv.size)
        clear hB p2
        go_wp2_with fail
        refine (aw _ hv).mono ?_
        rintro en w13 ⟨rfl, hB⟩
        replace hA := hA.below hB
        replace y0 := cell_on hB y0
        replace y1 := cell_on hB y1
        replace y2 := cell_on hB y2
        replace rr0 := cell_on hB rr0
        replace rr1 := cell_on hB rr1
        replace gg0 := cell_on hB gg0
        replace gg1 := cell_on hB gg1
        replace hv := hv.trans (hB.mono hv.size)
        clear hB aw
        go_wp2
        go_ret
        exact ⟨rfl, hv⟩
      · clear gin hpa hpb bpa bpb hE p1 p2
        generalize errG chs cks k a b = G at *
        have d2 : (G == 0) = false := beq_eq_false_iff_ne.2 hG
        clear hG
        go_enter Tryd.func7, Tryd.ntmps7
        go_wp2_with fail
        obtain ⟨w1, hw1⟩ : ∃ w1, w.alloc (.cells #[.int .u64 sd, .slice Ah chs.length hc, .slice Ak cks.length kc] 26) = w1 := ⟨_, rfl⟩
        try rw [hw1]
        have hB : Below w.heap.size w w1 := by rw [← hw1]; exact (Below.refl _ w).alloc (by first | exact Nat.le_refl _ | (simp; done) | (simp; omega)) _
        have kx : w1.heap[w.heap.size]? = some (.cells #[.int .u64 sd, .slice Ah chs.length hc, .slice Ak cks.length kc] 26 (0, 0)) := by rw [← hw1]; exact al_new _ _ _ (by first | rfl | (simp; done) | (simp; omega))
        have x0 : w1.cell? ⟨w.heap.size, 0, none⟩ = some (.int .u64 sd) := blk_cell kx 0
        have x1 : w1.cell? ⟨w.heap.size, 1, none⟩ = some (.slice Ah chs.length hc) := blk_cell kx 1
        have x2 : w1.cell? ⟨w.heap.size, 2, none⟩ = some (.slice Ak cks.length kc) := blk_cell kx 2
        clear kx
        replace hv := hv.trans (hB.mono hv.size)
        clear hB hw1
        refine (c10 _ hv).mono ?_
        rintro en w2 ⟨rfl, hB⟩
        replace x0 := cell_on hB x0
        replace x1 := cell_on hB x1
        replace x2 := cell_on hB x2
        replace hv := hv.trans (hB.mono hv.size)
        clear hB c10
        go_wp2_with fail
        refine (c12 _ hv).mono ?_
        rintro en w3 ⟨A1, k1, A2, k2, rfl, hA, hB⟩
        replace x0 := cell_on hB x0
        replace x1 := cell_on hB x1
        replace x2 := cell_on hB x2
        replace hv := hv.trans (hB.mono hv.size)
        clear hB c12 x0 x1 x2
        have hA3 := hA
        have hv3 := Below.refl w3.heap.size w3
        have hz8 := hv.size
        go_wp2_with fail
        obtain ⟨w4, hw4⟩ : ∃ w4, w3.alloc (.cells #[.int .u64 sd, .slice A1 chs.length k1, .slice A2 cks.length k2] 32) = w4 := ⟨_, rfl⟩
        try rw [hw4]
        have hB : Below w3.heap.size w3 w4 := by rw [← hw4]; exact (Below.refl _ w3).alloc (by first | exact Nat.le_refl _ | (simp; done) | (simp; omega)) _
        have ky : w4.heap[w3.heap.size]? = some (.cells #[.int .u64 sd, .slice A1 chs.length k1, .slice A2 cks.length k2] 32 (0, 0)) := by rw [← hw4]; exact al_new _ _ _ (by first | rfl | (simp; done) | (simp; omega))
        have y0 : w4.cell? ⟨w3.heap.size, 0, none⟩ = some (.int .u64 sd) := blk_cell ky 0
        have y1 : w4.cell? ⟨w3.heap.size, 1, none⟩ = some (.slice A1 chs.length k1) := blk_cell ky 1
        have y2 : w4.cell? ⟨w3.heap.size, 2, none⟩ = some (.slice A2 cks.length k2) := blk_cell ky 2
        replace hv3 := hv3.trans (hB.mono hv3.size)
        replace hA := hA.below hB
        replace hv := hv.trans (hB.mono hv.size)
        clear hB hw4
        refine (c30 _ _ _ _ _ hv hA).mono ?_
        rintro en w5 ⟨rfl, hB⟩
        replace hv3 := hv3.trans (hB.mono hv3.size)
        replace hA := hA.below hB
        replace ky := blk_on hB ky
        replace y0 := cell_on hB y0
        replace y1 := cell_on hB y1
        replace y2 := cell_on hB y2
        replace hv := hv.trans (hB.mono hv.size)
        clear hB c30
        have hz9 := blk_lt ky
        go_upto_region 5 with fail
        obtain ⟨w6, hw6⟩ : ∃ w6, w5.alloc (.cells #[.int .i64 lo, .int .i64 hi] 65) = w6 := ⟨_, rfl⟩
        try rw [hw6]
        have hB : Below w5.heap.size w5 w6 := by rw [← hw6]; exact (Below.refl _ w5).alloc (by first | exact Nat.le_refl _ | (simp; done) | (simp; omega)) _
        have krr : w6.heap[w5.heap.size]? = some (.cells #[.int .i64 lo, .int .i64 hi] 65 (0, 0)) := by rw [← hw6]; exact al_new _ _ _ (by first | rfl | (simp; done) | (simp; omega))
        have rr0 : w6.cell? ⟨w5.heap.size, 0, none⟩ = some (.int .i64 lo) := blk_cell krr 0
        have rr1 : w6.cell? ⟨w5.heap.size, 1, none⟩ = some (.int .i64 hi) := blk_cell krr 1
        replace hv3 := hv3.trans (hB.mono hv3.size)
        replace hA := hA.below hB
        replace ky := blk_on hB ky
        replace y0 := cell_on hB y0
        replace y1 := cell_on hB y1
        replace y2 := cell_on hB y2
        replace hv := hv.trans (hB.mono hv.size)
        clear hB hw6
        go_wp2_with fail
        refine (c34 _ _ _ _ _ hv hA).mono ?_
        rintro en w7 ⟨rfl, hB⟩
        replace hv3 := hv3.trans (hB.mono hv3.size)
        replace hA := hA.below hB
        replace ky := blk_on hB ky
        replace krr := blk_on hB krr
        replace y0 := cell_on hB y0
        replace y1 := cell_on hB y1
        replace y2 := cell_on hB y2
        replace rr0 := cell_on hB rr0
        replace rr1 := cell_on hB rr1
        replace hv := hv.trans (hB.mono hv.size)
        clear hB c34
        have hz7 := blk_lt krr
        go_upto_region 6 with fail
        obtain ⟨w8, hw8⟩ : ∃ w8, w7.alloc (.cells #[.int .i64 gl, .int .i64 gh] 65) = w8 := ⟨_, rfl⟩
        try rw [hw8]
        have hB : Below w7.heap.size w7 w8 := by rw [← hw8]; exact (Below.refl _ w7).alloc (by first | exact Nat.le_refl _ | (simp; done) | (simp; omega)) _
        have kgg : w8.heap[w7.heap.size]? = some (.cells #[.int .i64 gl, .int .i64 gh] 65 (0, 0)) := by rw [← hw8]; exact al_new _ _ _ (by first | rfl | (simp; done) | (simp; omega))
        have gg0 : w8.cell? ⟨w7.heap.size, 0, none⟩ = some (.int .i64 gl) := blk_cell kgg 0
        have gg1 : w8.cell? ⟨w7.heap.size, 1, none⟩ = some (.int .i64 gh) := blk_cell kgg 1
        replace hv3 := hv3.trans (hB.mono hv3.size)
        replace hA := hA.below hB
        replace ky := blk_on hB ky
        replace krr := blk_on hB krr
        replace y0 := cell_on hB y0
        replace y1 := cell_on hB y1
        replace y2 := cell_on hB y2
        replace rr0 := cell_on hB rr0
        replace rr1 := cell_on hB rr1
        replace hv := hv.trans (hB.mono hv.size)
        clear hB hw8
        have n35 : ¬ w5.heap.size = w3.heap.size := by omega
        have n37 : ¬ w7.heap.size = w3.heap.size := by omega
        have yf := blk_frozen ky 0
        go_upto_region 7 with fail
        obtain ⟨w9, hw9⟩ : ∃ w', w8.setCell ⟨w3.heap.size, 0, none⟩ (.int .u64 seed) = w' := ⟨_, rfl⟩
        rw [hw9]
        replace ky : w9.heap[w3.heap.size]? = some (.cells #[.int .u64 seed, .slice A1 chs.length k1, .slice A2 cks.length k2] 32 (0, 0)) := by rw [← hw9]; exact blk_put ky 0 _ rfl
        replace krr : w9.heap[w5.heap.size]? = some (.cells #[.int .i64 lo, .int .i64 hi] 65 (0, 0)) := by rw [← hw9]; exact blk_far krr (by simpa using n35) _
        replace kgg : w9.heap[w7.heap.size]? = some (.cells #[.int .i64 gl, .int .i64 gh] 65 (0, 0)) := by rw [← hw9]; exact blk_far kgg (by simpa using n37) _
        replace hv3 : Below w3.heap.size w3 w9 := by rw [← hw9]; exact hv3.setCell (by simp) _
        replace hv : Below w.heap.size w w9 := by rw [← hw9]; exact hv.setCell (by simp; omega) _
        replace hA := hA3.below hv3
        clear hw9 yf y0 y1 y2 rr0 rr1 gg0 gg1 hA3 hv3 n35 n37
        have y0 : w9.cell? ⟨w3.heap.size, 0, none⟩ = some (.int .u64 seed) := blk_cell ky 0
        have y1 : w9.cell? ⟨w3.heap.size, 1, none⟩ = some (.slice A1 chs.length k1) := blk_cell ky 1
        have y2 : w9.cell? ⟨w3.heap.size, 2, none⟩ = some (.slice A2 cks.length k2) := blk_cell ky 2
        have rr0 : w9.cell? ⟨w5.heap.size, 0, none⟩ = some (.int .i64 lo) := blk_cell krr 0
        have rr1 : w9.cell? ⟨w5.heap.size, 1, none⟩ = some (.int .i64 hi) := blk_cell krr 1
        have gg0 : w9.cell? ⟨w7.heap.size, 0, none⟩ = some (.int .i64 gl) := blk_cell kgg 0
        have gg1 : w9.cell? ⟨w7.heap.size, 1, none⟩ = some (.int .i64 gh) := blk_cell kgg 1
        clear ky krr kgg
        go_wp2_with fail
        refine (c21 _ _ _ _ _ hv hA).mono ?_
        rintro en w10 ⟨rfl, hB⟩
        replace hA := hA.below hB
        replace y0 := cell_on hB y0
        replace y1 := cell_on hB y1
        replace y2 := cell_on hB y2
        replace rr0 := cell_on hB rr0
        replace rr1 := cell_on hB rr1
        replace gg0 := cell_on hB gg0
        replace gg1 := cell_on hB gg1
        replace hv := hv.trans (hB.mono hv.size)
        clear hB c21
        go_wp2_with fail
        refine (aw _ hv).mono ?_
        rintro en w11 ⟨rfl, hB⟩
        replace hA := hA.below hB
        replace y0 := cell_on hB y0
        replace y1 := cell_on hB y1
        replace y2 := cell_on hB y2
        replace rr0 := cell_on hB rr0
        replace rr1 := cell_on hB rr1
        replace gg0 := cell_on hB gg0
        replace gg1 := cell_on hB gg1
        replace hv := hv.trans (hB.mono hv.size)
        clear hB aw
        go_wp2
        go_ret
        exact ⟨rfl, hv⟩
end Go.Proofs.YtlfnnalepdjagaaDoor.C
