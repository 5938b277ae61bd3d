/- Ca, Cb, Cc, Cd, Ce, Cf, Cg, Cj: joined. -/
import Derived.OwnWalk
import Derived.BigRegion
import Derived.WalkKit
import Derived.Deep.CutBlock
import Derived.Deep.RegionHeld3
import Derived.Test.YtlfnnalepdjagaaDoorAf
import Derived.BigQuiet
import Derived.Deep.QuietTactic
import Derived.WalkSmall
import Derived.Test.YtlfnnalepdjagaaDoorAg
import Derived.Test.YtlfnnalepdjagaaDoorAc
import Derived.StillTailTactics
import Derived.Test.YtlfnnalepdjagaaDoorAi
import Derived.Test.YtlfnnalepdjagaaDoorAs
import Derived.Test.YtlfnnalepdjagaaDoorBf
import Derived.Test.YtlfnnalepdjagaaDoorAo
import Derived.Test.YtlfnnalepdjagaaDoorBh
section
/- The contract of the reference's wrongClock. -/
namespace Go.Proofs.YtlfnnalepdjagaaDoor.C
open Go.RowKit Go.Shelf Go.Maps Go.Proofs.YtlfnnalepdjagaaDoorW.PrintWords Go.Proofs.YtlfnnalepdjagaaDoorW.PrintLast Go.Proofs.YtlfnnalepdjagaaDoorW.PrintMore
set_option linter.unusedVariables false
set_option linter.unusedSimpArgs false
theorem inW_iff0 (n a b : Int) : inW n a b = true ↔ a ≤ n ∧ n ≤ b := by unfold inW; simp
theorem in_or (n m : Int) : (decide (-m ≤ n) && decide (n ≤ m)) = inW n (-m) m := rfl
theorem badCk_kd {n : Nat} {x : Ck} (h : inW x.kd 1 5 = false) : badCk n x = true := by unfold badCk; rw [h]; rfl
theorem badCk_in {n : Nat} {x : Ck} (h : inW x.kd 1 5 = true) : badCk n x = (!inW x.ph (-100000000000000) 100000000000000 || !inW x.rt (-limV x.kd.toNat 0) (limV x.kd.toNat 0) || !inW x.dr (-limV x.kd.toNat 1) (limV x.kd.toNat 1) || !inW x.wh 0 (limV x.kd.toNat 2) || !inW x.wk 0 (limV x.kd.toNat 3) || !inW x.ht (-1000000000) 1000000000 || !inW x.ch 0 ((n : Int) - 1)) := by unfold badCk; rw [if_pos h]
set_option maxHeartbeats 4000000 in
set_option maxRecDepth 100000 in
theorem wrongClock_calls (seed : Int) (Ah : Option Addr) (nh chc : Nat) (vk : Value) (x : Ck) (Ae : Option Addr) (ce : Nat) (w : World) (hn : nh ≤ 9223372036854775807) :
    Calls Tryd.prog 66 #[.agg #[.int .u64 seed, .slice Ah nh chc, vk], ckV x Ae ce] w fun e w' => e = .returned (.bool (badCk nh x)) ∧ Below w.heap.size w w' := by
  have hv := Below.refl w.heap.size w
  obtain ⟨kd, ph, rt, dr, wh, wk, ht, ch, es⟩ := x
  unfold ckV
  simp only
  obtain ⟨n, hn9⟩ : ∃ n, es.length = n := ⟨_, rfl⟩
  rw [hn9]
  by_cases hk : inW kd 1 5 = true
  rotate_left
  · simp only [Bool.not_eq_true] at hk
    rw [badCk_kd (x := ⟨kd, ph, rt, dr, wh, wk, ht, ch, es⟩) hk]
    have k1 : ¬ (1 ≤ kd ∧ kd ≤ 5) := fun h => by rw [← inW_iff0] at h; rw [hk] at h; cases h
    have d1 : (kd == 1) = false := beq_eq_false_iff_ne.2 (by omega)
    have d2 : (kd == 2) = false := beq_eq_false_iff_ne.2 (by omega)
    have d3 : (kd == 3) = false := beq_eq_false_iff_ne.2 (by omega)
    have d4 : (kd == 4) = false := beq_eq_false_iff_ne.2 (by omega)
    have d5 : (kd == 5) = false := beq_eq_false_iff_ne.2 (by omega)
    clear hk hn9
    go_enter Tryd.func66, Tryd.ntmps66
    go_wp2
    go_ret
    exact ⟨rfl, (hv.alloc (Nat.le_refl _) _).alloc (by simp) _⟩
  · have hB := badCk_in (n := nh) (x := ⟨kd, ph, rt, dr, wh, wk, ht, ch, es⟩) hk
    simp only at hB
    rw [hB]
    have k1 := (inW_iff0 kd 1 5).1 hk
    have hl0 := limV_b kd.toNat (by omega) 0 (by omega)
    have hl1 := limV_b kd.toNat (by omega) 1 (by omega)
    have hl2 := limV_b kd.toNat (by omega) 2 (by omega)
    have hl3 := limV_b kd.toNat (by omega) 3 (by omega)
    have ck : kd = 1 ∨ kd = 2 ∨ kd = 3 ∨ kd = 4 ∨ kd = 5 := by omega
    clear hB hk k1 hn9
    obtain ⟨R, hR⟩ : ∃ r, limV kd.toNat 0 = r := ⟨_, rfl⟩
    rw [hR] at hl0 ⊢
    obtain ⟨D, hD⟩ : ∃ r, limV kd.toNat 1 = r := ⟨_, rfl⟩
    rw [hD] at hl1 ⊢
    obtain ⟨W, hW⟩ : ∃ r, limV kd.toNat 2 = r := ⟨_, rfl⟩
    rw [hW] at hl2 ⊢
    obtain ⟨K, hK⟩ : ∃ r, limV kd.toNat 3 = r := ⟨_, rfl⟩
    rw [hK] at hl3 ⊢
    go_enter Tryd.func66, Tryd.ntmps66
    go_upto_region 2 with fail
    obtain ⟨w1, hw1⟩ : ∃ w1, (w.alloc (.cells #[.int .u64 seed, .slice Ah nh chc, vk] 26)).alloc (.cells #[.int .i64 kd, .int .i64 ph, .int .i64 rt, .int .i64 dr, .int .i64 wh, .int .i64 wk, .int .i64 ht, .int .i64 ch, .slice Ae n ce] 88) = w1 := ⟨_, rfl⟩
    try rw [hw1]
    have hB : Below w.heap.size w w1 := by rw [← hw1]; exact ((Below.refl _ w).alloc (by first | exact Nat.le_refl _ | (simp; done) | (simp; omega)) _).alloc (by first | exact Nat.le_refl _ | (simp; done) | (simp; omega)) _
    have kx : w1.heap[w.heap.size]? = some (.cells #[.int .u64 seed, .slice Ah nh chc, vk] 26 (0, 0)) := by rw [← hw1]; exact al_old (al_new _ _ _ (by first | rfl | (simp; done) | (simp; omega)))
    have x0 : w1.cell? ⟨w.heap.size, 0, none⟩ = some (.int .u64 seed) := blk_cell kx 0
    have x1 : w1.cell? ⟨w.heap.size, 1, none⟩ = some (.slice Ah nh chc) := blk_cell kx 1
    have x2 : w1.cell? ⟨w.heap.size, 2, none⟩ = some (vk) := blk_cell kx 2
    clear kx
    have ky : w1.heap[w.heap.size + 1]? = some (.cells #[.int .i64 kd, .int .i64 ph, .int .i64 rt, .int .i64 dr, .int .i64 wh, .int .i64 wk, .int .i64 ht, .int .i64 ch, .slice Ae n ce] 88 (0, 0)) := by rw [← hw1]; exact al_new _ _ _ (by first | rfl | (simp; done) | (simp; omega))
    have y0 : w1.cell? ⟨w.heap.size + 1, 0, none⟩ = some (.int .i64 kd) := blk_cell ky 0
    have y1 : w1.cell? ⟨w.heap.size + 1, 1, none⟩ = some (.int .i64 ph) := blk_cell ky 1
    have y2 : w1.cell? ⟨w.heap.size + 1, 2, none⟩ = some (.int .i64 rt) := blk_cell ky 2
    have y3 : w1.cell? ⟨w.heap.size + 1, 3, none⟩ = some (.int .i64 dr) := blk_cell ky 3
    have y4 : w1.cell? ⟨w.heap.size + 1, 4, none⟩ = some (.int .i64 wh) := blk_cell ky 4
    have y5 : w1.cell? ⟨w.heap.size + 1, 5, none⟩ = some (.int .i64 wk) := blk_cell ky 5
    have y6 : w1.cell? ⟨w.heap.size + 1, 6, none⟩ = some (.int .i64 ht) := blk_cell ky 6
    have y7 : w1.cell? ⟨w.heap.size + 1, 7, none⟩ = some (.int .i64 ch) := blk_cell ky 7
    have y8 : w1.cell? ⟨w.heap.size + 1, 8, none⟩ = some (.slice Ae n ce) := blk_cell ky 8
    clear ky
    replace hv := hv.trans (hB.mono hv.size)
    clear hB hw1
    have hx1 : w1.cell? ⟨w.heap.size, 1, none⟩ = some (.slice Ah nh chc) := x1
    go_upto_block 0 with fail
    go_cut [5, 6, 7, 8] from 9 (fun s5 s6 s7 s8 wx => s5 = .int .i64 R ∧ s6 = .int .i64 D ∧ s7 = .int .i64 W ∧ s8 = .int .i64 K ∧ wx = w1)
    case first =>
      clear y1 y2 y3 y4 y5 y6 y7 y8 hl0 hl1 hl2 hl3
      have HR := Aside0.mk hR
      have HD := Aside0.mk hD
      have HW := Aside0.mk hW
      have HK := Aside0.mk hK
      clear hR hD hW hK
      rcases ck with rfl | rfl | rfl | rfl | rfl <;> (go_wp2; go_meet; exact ⟨by rw [← HR.out]; rfl, by rw [← HD.out]; rfl, by rw [← HW.out]; rfl, by rw [← HK.out]; rfl, rfl⟩)
    case rest =>
      obtain ⟨rfl, rfl, rfl, rfl, rfl⟩ := hcut
      clear ck y0 hR hD hW hK
      have c1 := fun W => within_calls rt R W (by omega)
      have c2 := fun W => within_calls dr D W (by omega)
      have c3 := fun W => within_calls ph 100000000000000 W (by omega)
      have c4 := fun W => within_calls ht 1000000000 W (by omega)
      simp only [in_or] at c1 c2 c3 c4
      have un : IntKind.i64.wrap ((nh : Int) - 1) = (nh : Int) - 1 := wr _ (by omega) (by omega)
      clear hl0 hl1 hl2 hl3
      by_cases g0 : inW rt (-R) R = true
      rotate_left
      · simp only [Bool.not_eq_true] at g0
        rw [g0] at c1
        have hv9 := hv
        go_wp2_with fail
        refine (c1 _).mono ?_
        rintro en w2 ⟨rfl, hB⟩
        replace x1 := cell_on hB x1
        replace y1 := cell_on hB y1
        replace y2 := cell_on hB y2
        replace y3 := cell_on hB y3
        replace y4 := cell_on hB y4
        replace y5 := cell_on hB y5
        replace y6 := cell_on hB y6
        replace y7 := cell_on hB y7
        replace hv := hv.trans (hB.mono hv.size)
        clear hB c1
        go_wp2
        go_ret
        exact ⟨by simp [g0], hv⟩
      rw [g0] at c1
      by_cases g1 : inW dr (-D) D = true
      rotate_left
      · simp only [Bool.not_eq_true] at g1
        rw [g1] at c2
        have hv9 := hv
        go_wp2_with fail
        refine (c1 _).mono ?_
        rintro en w2 ⟨rfl, hB⟩
        replace x1 := cell_on hB x1
        replace y1 := cell_on hB y1
        replace y2 := cell_on hB y2
        replace y3 := cell_on hB y3
        replace y4 := cell_on hB y4
        replace y5 := cell_on hB y5
        replace y6 := cell_on hB y6
        replace y7 := cell_on hB y7
        replace hv := hv.trans (hB.mono hv.size)
        clear hB c1
        go_wp2_with fail
        refine (c2 _).mono ?_
        rintro en w3 ⟨rfl, hB⟩
        replace x1 := cell_on hB x1
        replace y1 := cell_on hB y1
        replace y2 := cell_on hB y2
        replace y3 := cell_on hB y3
        replace y4 := cell_on hB y4
        replace y5 := cell_on hB y5
        replace y6 := cell_on hB y6
        replace y7 := cell_on hB y7
        replace hv := hv.trans (hB.mono hv.size)
        clear hB c2
        go_wp2
        go_ret
        exact ⟨by simp [g1], hv⟩
      rw [g1] at c2
      by_cases g2 : wh < 0
      · have f2 : decide (wh < 0) = true := decide_eq_true g2
        have f2' : decide (0 > wh) = true := decide_eq_true g2
        have q : inW wh 0 W = false := by unfold inW; simp; omega
        have hv9 := hv
        go_wp2_with fail
        refine (c1 _).mono ?_
        rintro en w2 ⟨rfl, hB⟩
        replace x1 := cell_on hB x1
        replace y1 := cell_on hB y1
        replace y2 := cell_on hB y2
        replace y3 := cell_on hB y3
        replace y4 := cell_on hB y4
        replace y5 := cell_on hB y5
        replace y6 := cell_on hB y6
        replace y7 := cell_on hB y7
        replace hv := hv.trans (hB.mono hv.size)
        clear hB c1
        go_wp2_with fail
        refine (c2 _).mono ?_
        rintro en w3 ⟨rfl, hB⟩
        replace x1 := cell_on hB x1
        replace y1 := cell_on hB y1
        replace y2 := cell_on hB y2
        replace y3 := cell_on hB y3
        replace y4 := cell_on hB y4
        replace y5 := cell_on hB y5
        replace y6 := cell_on hB y6
        replace y7 := cell_on hB y7
        replace hv := hv.trans (hB.mono hv.size)
        clear hB c2
        go_wp2
        go_ret
        exact ⟨by simp [q], hv⟩
      have f2 : decide (wh < 0) = false := decide_eq_false g2
      have f2' : decide (0 > wh) = false := decide_eq_false g2
      by_cases g3 : W < wh
      · have f3 : decide (W < wh) = true := decide_eq_true g3
        have f3' : decide (wh > W) = true := decide_eq_true g3
        have q : inW wh 0 W = false := by unfold inW; simp; omega
        have hv9 := hv
        go_wp2_with fail
        refine (c1 _).mono ?_
        rintro en w2 ⟨rfl, hB⟩
        replace x1 := cell_on hB x1
        replace y1 := cell_on hB y1
        replace y2 := cell_on hB y2
        replace y3 := cell_on hB y3
        replace y4 := cell_on hB y4
        replace y5 := cell_on hB y5
        replace y6 := cell_on hB y6
        replace y7 := cell_on hB y7
        replace hv := hv.trans (hB.mono hv.size)
        clear hB c1
        go_wp2_with fail
        refine (c2 _).mono ?_
        rintro en w3 ⟨rfl, hB⟩
        replace x1 := cell_on hB x1
        replace y1 := cell_on hB y1
        replace y2 := cell_on hB y2
        replace y3 := cell_on hB y3
        replace y4 := cell_on hB y4
        replace y5 := cell_on hB y5
        replace y6 := cell_on hB y6
        replace y7 := cell_on hB y7
        replace hv := hv.trans (hB.mono hv.size)
        clear hB c2
        go_wp2
        go_ret
        exact ⟨by simp [q], hv⟩
      have f3 : decide (W < wh) = false := decide_eq_false g3
      have f3' : decide (wh > W) = false := decide_eq_false g3
      by_cases g4 : wk < 0
      · have f4 : decide (wk < 0) = true := decide_eq_true g4
        have f4' : decide (0 > wk) = true := decide_eq_true g4
        have q : inW wk 0 K = false := by unfold inW; simp; omega
        have hv9 := hv
        go_wp2_with fail
        refine (c1 _).mono ?_
        rintro en w2 ⟨rfl, hB⟩
        replace x1 := cell_on hB x1
        replace y1 := cell_on hB y1
        replace y2 := cell_on hB y2
        replace y3 := cell_on hB y3
        replace y4 := cell_on hB y4
        replace y5 := cell_on hB y5
        replace y6 := cell_on hB y6
        replace y7 := cell_on hB y7
        replace hv := hv.trans (hB.mono hv.size)
        clear hB c1
        go_wp2_with fail
        refine (c2 _).mono ?_
        rintro en w3 ⟨rfl, hB⟩
        replace x1 := cell_on hB x1
        replace y1 := cell_on hB y1
        replace y2 := cell_on hB y2
        replace y3 := cell_on hB y3
        replace y4 := cell_on hB y4
        replace y5 := cell_on hB y5
        replace y6 := cell_on hB y6
        replace y7 := cell_on hB y7
        replace hv := hv.trans (hB.mono hv.size)
        clear hB c2
        go_wp2
        go_ret
        exact ⟨by simp [q], hv⟩
      have f4 : decide (wk < 0) = false := decide_eq_false g4
      have f4' : decide (0 > wk) = false := decide_eq_false g4
      by_cases g5 : K < wk
      · have f5 : decide (K < wk) = true := decide_eq_true g5
        have f5' : decide (wk > K) = true := decide_eq_true g5
        have q : inW wk 0 K = false := by unfold inW; simp; omega
        have hv9 := hv
        go_wp2_with fail
        refine (c1 _).mono ?_
        rintro en w2 ⟨rfl, hB⟩
        replace x1 := cell_on hB x1
        replace y1 := cell_on hB y1
        replace y2 := cell_on hB y2
        replace y3 := cell_on hB y3
        replace y4 := cell_on hB y4
        replace y5 := cell_on hB y5
        replace y6 := cell_on hB y6
        replace y7 := cell_on hB y7
        replace hv := hv.trans (hB.mono hv.size)
        clear hB c1
        go_wp2_with fail
        refine (c2 _).mono ?_
        rintro en w3 ⟨rfl, hB⟩
        replace x1 := cell_on hB x1
        replace y1 := cell_on hB y1
        replace y2 := cell_on hB y2
        replace y3 := cell_on hB y3
        replace y4 := cell_on hB y4
        replace y5 := cell_on hB y5
        replace y6 := cell_on hB y6
        replace y7 := cell_on hB y7
        replace hv := hv.trans (hB.mono hv.size)
        clear hB c2
        go_wp2
        go_ret
        exact ⟨by simp [q], hv⟩
      have f5 : decide (K < wk) = false := decide_eq_false g5
      have f5' : decide (wk > K) = false := decide_eq_false g5
      by_cases g6 : inW ph (-100000000000000) 100000000000000 = true
      rotate_left
      · simp only [Bool.not_eq_true] at g6
        rw [g6] at c3
        have hv9 := hv
        go_wp2_with fail
        refine (c1 _).mono ?_
        rintro en w2 ⟨rfl, hB⟩
        replace x1 := cell_on hB x1
        replace y1 := cell_on hB y1
        replace y2 := cell_on hB y2
        replace y3 := cell_on hB y3
        replace y4 := cell_on hB y4
        replace y5 := cell_on hB y5
        replace y6 := cell_on hB y6
        replace y7 := cell_on hB y7
        replace hv := hv.trans (hB.mono hv.size)
        clear hB c1
        go_wp2_with fail
        refine (c2 _).mono ?_
        rintro en w3 ⟨rfl, hB⟩
        replace x1 := cell_on hB x1
        replace y1 := cell_on hB y1
        replace y2 := cell_on hB y2
        replace y3 := cell_on hB y3
        replace y4 := cell_on hB y4
        replace y5 := cell_on hB y5
        replace y6 := cell_on hB y6
        replace y7 := cell_on hB y7
        replace hv := hv.trans (hB.mono hv.size)
        clear hB c2
        go_wp2_with fail
        refine (c3 _).mono ?_
        rintro en w4 ⟨rfl, hB⟩
        replace x1 := cell_on hB x1
        replace y1 := cell_on hB y1
        replace y2 := cell_on hB y2
        replace y3 := cell_on hB y3
        replace y4 := cell_on hB y4
        replace y5 := cell_on hB y5
        replace y6 := cell_on hB y6
        replace y7 := cell_on hB y7
        replace hv := hv.trans (hB.mono hv.size)
        clear hB c3
        go_wp2
        go_ret
        exact ⟨by simp [g6], hv⟩
      rw [g6] at c3
      by_cases g7 : inW ht (-1000000000) 1000000000 = true
      rotate_left
      · simp only [Bool.not_eq_true] at g7
        rw [g7] at c4
        have hv9 := hv
        go_wp2_with fail
        refine (c1 _).mono ?_
        rintro en w2 ⟨rfl, hB⟩
        replace x1 := cell_on hB x1
        replace y1 := cell_on hB y1
        replace y2 := cell_on hB y2
        replace y3 := cell_on hB y3
        replace y4 := cell_on hB y4
        replace y5 := cell_on hB y5
        replace y6 := cell_on hB y6
        replace y7 := cell_on hB y7
        replace hv := hv.trans (hB.mono hv.size)
        clear hB c1
        go_wp2_with fail
        refine (c2 _).mono ?_
        rintro en w3 ⟨rfl, hB⟩
        replace x1 := cell_on hB x1
        replace y1 := cell_on hB y1
        replace y2 := cell_on hB y2
        replace y3 := cell_on hB y3
        replace y4 := cell_on hB y4
        replace y5 := cell_on hB y5
        replace y6 := cell_on hB y6
        replace y7 := cell_on hB y7
        replace hv := hv.trans (hB.mono hv.size)
        clear hB c2
        go_wp2_with fail
        refine (c3 _).mono ?_
        rintro en w4 ⟨rfl, hB⟩
        replace x1 := cell_on hB x1
        replace y1 := cell_on hB y1
        replace y2 := cell_on hB y2
        replace y3 := cell_on hB y3
        replace y4 := cell_on hB y4
        replace y5 := cell_on hB y5
        replace y6 := cell_on hB y6
        replace y7 := cell_on hB y7
        replace hv := hv.trans (hB.mono hv.size)
        clear hB c3
        go_wp2_with fail
        refine (c4 _).mono ?_
        rintro en w5 ⟨rfl, hB⟩
        replace x1 := cell_on hB x1
        replace y1 := cell_on hB y1
        replace y2 := cell_on hB y2
        replace y3 := cell_on hB y3
        replace y4 := cell_on hB y4
        replace y5 := cell_on hB y5
        replace y6 := cell_on hB y6
        replace y7 := cell_on hB y7
        replace hv := hv.trans (hB.mono hv.size)
        clear hB c4
        go_wp2
        go_ret
        exact ⟨by simp [g7], hv⟩
      rw [g7] at c4
      by_cases g8 : ch < 0
      · have f8 : decide (ch < 0) = true := decide_eq_true g8
        have f8' : decide (0 > ch) = true := decide_eq_true g8
        have q : inW ch 0 ((nh : Int) - 1) = false := by unfold inW; simp; omega
        have hv9 := hv
        go_wp2_with fail
        refine (c1 _).mono ?_
        rintro en w2 ⟨rfl, hB⟩
        replace x1 := cell_on hB x1
        replace y1 := cell_on hB y1
        replace y2 := cell_on hB y2
        replace y3 := cell_on hB y3
        replace y4 := cell_on hB y4
        replace y5 := cell_on hB y5
        replace y6 := cell_on hB y6
        replace y7 := cell_on hB y7
        replace hv := hv.trans (hB.mono hv.size)
        clear hB c1
        go_wp2_with fail
        refine (c2 _).mono ?_
        rintro en w3 ⟨rfl, hB⟩
        replace x1 := cell_on hB x1
        replace y1 := cell_on hB y1
        replace y2 := cell_on hB y2
        replace y3 := cell_on hB y3
        replace y4 := cell_on hB y4
        replace y5 := cell_on hB y5
        replace y6 := cell_on hB y6
        replace y7 := cell_on hB y7
        replace hv := hv.trans (hB.mono hv.size)
        clear hB c2
        go_wp2_with fail
        refine (c3 _).mono ?_
        rintro en w4 ⟨rfl, hB⟩
        replace x1 := cell_on hB x1
        replace y1 := cell_on hB y1
        replace y2 := cell_on hB y2
        replace y3 := cell_on hB y3
        replace y4 := cell_on hB y4
        replace y5 := cell_on hB y5
        replace y6 := cell_on hB y6
        replace y7 := cell_on hB y7
        replace hv := hv.trans (hB.mono hv.size)
        clear hB c3
        go_wp2_with fail
        refine (c4 _).mono ?_
        rintro en w5 ⟨rfl, hB⟩
        replace x1 := cell_on hB x1
        replace y1 := cell_on hB y1
        replace y2 := cell_on hB y2
        replace y3 := cell_on hB y3
        replace y4 := cell_on hB y4
        replace y5 := cell_on hB y5
        replace y6 := cell_on hB y6
        replace y7 := cell_on hB y7
        replace hv := hv.trans (hB.mono hv.size)
        clear hB c4
        go_wp2
        go_ret
        exact ⟨by simp [q], hv⟩
      have f8 : decide (ch < 0) = false := decide_eq_false g8
      have f8' : decide (0 > ch) = false := decide_eq_false g8
      by_cases g9 : (nh : Int) ≤ ch
      · have f9 : decide ((nh : Int) ≤ ch) = true := decide_eq_true g9
        have f9' : decide (ch ≥ (nh : Int)) = true := decide_eq_true g9
        have q : inW ch 0 ((nh : Int) - 1) = false := by unfold inW; simp; omega
        have hv9 := hv
        go_wp2_with fail
        refine (c1 _).mono ?_
        rintro en w2 ⟨rfl, hB⟩
        replace x1 := cell_on hB x1
        replace y1 := cell_on hB y1
        replace y2 := cell_on hB y2
        replace y3 := cell_on hB y3
        replace y4 := cell_on hB y4
        replace y5 := cell_on hB y5
        replace y6 := cell_on hB y6
        replace y7 := cell_on hB y7
        replace hv := hv.trans (hB.mono hv.size)
        clear hB c1
        go_wp2_with fail
        refine (c2 _).mono ?_
        rintro en w3 ⟨rfl, hB⟩
        replace x1 := cell_on hB x1
        replace y1 := cell_on hB y1
        replace y2 := cell_on hB y2
        replace y3 := cell_on hB y3
        replace y4 := cell_on hB y4
        replace y5 := cell_on hB y5
        replace y6 := cell_on hB y6
        replace y7 := cell_on hB y7
        replace hv := hv.trans (hB.mono hv.size)
        clear hB c2
        go_wp2_with fail
        refine (c3 _).mono ?_
        rintro en w4 ⟨rfl, hB⟩
        replace x1 := cell_on hB x1
        replace y1 := cell_on hB y1
        replace y2 := cell_on hB y2
        replace y3 := cell_on hB y3
        replace y4 := cell_on hB y4
        replace y5 := cell_on hB y5
        replace y6 := cell_on hB y6
        replace y7 := cell_on hB y7
        replace hv := hv.trans (hB.mono hv.size)
        clear hB c3
        go_wp2_with fail
        refine (c4 _).mono ?_
        rintro en w5 ⟨rfl, hB⟩
        replace x1 := cell_on hB x1
        replace y1 := cell_on hB y1
        replace y2 := cell_on hB y2
        replace y3 := cell_on hB y3
        replace y4 := cell_on hB y4
        replace y5 := cell_on hB y5
        replace y6 := cell_on hB y6
        replace y7 := cell_on hB y7
        replace hv := hv.trans (hB.mono hv.size)
        clear hB c4
        go_wp2
        go_ret
        exact ⟨by simp [q], hv⟩
      have f9 : decide ((nh : Int) ≤ ch) = false := decide_eq_false g9
      have f9' : decide (ch ≥ (nh : Int)) = false := decide_eq_false g9
      have q1 : inW wh 0 W = true := by unfold inW; simp; omega
      have q2 : inW wk 0 K = true := by unfold inW; simp; omega
      have q3 : inW ch 0 ((nh : Int) - 1) = true := by unfold inW; simp; omega
      have hv9 := hv
      go_wp2_with fail
      refine (c1 _).mono ?_
      rintro en w2 ⟨rfl, hB⟩
      replace x1 := cell_on hB x1
      replace y1 := cell_on hB y1
      replace y2 := cell_on hB y2
      replace y3 := cell_on hB y3
      replace y4 := cell_on hB y4
      replace y5 := cell_on hB y5
      replace y6 := cell_on hB y6
      replace y7 := cell_on hB y7
      replace hv := hv.trans (hB.mono hv.size)
      clear hB c1
      go_wp2_with fail
      refine (c2 _).mono ?_
      rintro en w3 ⟨rfl, hB⟩
      replace x1 := cell_on hB x1
      replace y1 := cell_on hB y1
      replace y2 := cell_on hB y2
      replace y3 := cell_on hB y3
      replace y4 := cell_on hB y4
      replace y5 := cell_on hB y5
      replace y6 := cell_on hB y6
      replace y7 := cell_on hB y7
      replace hv := hv.trans (hB.mono hv.size)
      clear hB c2
      go_wp2_with fail
      refine (c3 _).mono ?_
      rintro en w4 ⟨rfl, hB⟩
      replace x1 := cell_on hB x1
      replace y1 := cell_on hB y1
      replace y2 := cell_on hB y2
      replace y3 := cell_on hB y3
      replace y4 := cell_on hB y4
      replace y5 := cell_on hB y5
      replace y6 := cell_on hB y6
      replace y7 := cell_on hB y7
      replace hv := hv.trans (hB.mono hv.size)
      clear hB c3
      go_wp2_with fail
      refine (c4 _).mono ?_
      rintro en w5 ⟨rfl, hB⟩
      replace x1 := cell_on hB x1
      replace y1 := cell_on hB y1
      replace y2 := cell_on hB y2
      replace y3 := cell_on hB y3
      replace y4 := cell_on hB y4
      replace y5 := cell_on hB y5
      replace y6 := cell_on hB y6
      replace y7 := cell_on hB y7
      replace hv := hv.trans (hB.mono hv.size)
      clear hB c4
      go_wp2
      go_ret
      exact ⟨by simp [g0, g1, g6, g7, q1, q2, q3], hv⟩
end Go.Proofs.YtlfnnalepdjagaaDoor.C
end

section
/- The contract of the reference's wrongEvents. -/
namespace Go.Proofs.YtlfnnalepdjagaaDoor.C
open Go.RowKit Go.Shelf Go.Maps Go.Proofs.YtlfnnalepdjagaaDoorW.PrintWords Go.Proofs.YtlfnnalepdjagaaDoorW.PrintLast Go.Proofs.YtlfnnalepdjagaaDoorW.PrintMore
set_option linter.unusedVariables false
set_option linter.unusedSimpArgs false
set_option maxHeartbeats 4000000 in
set_option maxRecDepth 100000 in
theorem within_same (n m : Int) (w : World) (hm : 0 ≤ m ∧ m ≤ 1000000000000000) :
    Calls Tryd.prog 81 #[.int .i64 n, .int .i64 m] w fun e w' => e = .returned (.bool (decide (-m ≤ n) && decide (n ≤ m))) ∧ w' = w := by
  have u1 := wr (-m) (by omega) (by omega)
  cases h1 : decide (-m ≤ n)
  · go_enter Tryd.func81, Tryd.ntmps81
    go_wp2
    go_ret
    exact ⟨rfl, rfl⟩
  · cases h2 : decide (n ≤ m)
    all_goals
      go_enter Tryd.func81, Tryd.ntmps81
      go_wp2
      go_ret
      exact ⟨rfl, rfl⟩
theorem lastOf_pos {es : List T3} {i : Nat} (hi : i < es.length) (h : ∀ j, j < i → badAt es j = false) : (i = 0 → lastOf es i = 0) ∧ (0 < i → ∃ p, ∃ hp : p < es.length, p + 1 = i ∧ lastOf es i = es[p].2.1 ∧ 1 ≤ es[p].2.1) := by
  have h0 : ∀ j, j ≤ i → 0 ≤ lastOf es j := by
    intro j
    induction j with
    | zero => intro _; simp [lastOf]
    | succ j ih =>
      intro hj
      have h1 := h j (by omega)
      unfold badAt at h1
      simp only [Bool.or_eq_false_iff, Bool.not_eq_false', inW_iff] at h1
      have := ih (by omega)
      simp only [lastOf]; omega
  refine ⟨fun e => by subst e; rfl, fun h1 => ?_⟩
  obtain ⟨p, rfl⟩ : ∃ p, i = p + 1 := ⟨i - 1, by omega⟩
  have hp : p < es.length := by omega
  refine ⟨p, hp, rfl, by simp only [lastOf]; rw [getD_at hp], ?_⟩
  have h2 := h p (by omega)
  have h3 := h0 p (by omega)
  unfold badAt at h2
  simp only [Bool.or_eq_false_iff, Bool.not_eq_false', inW_iff] at h2
  rw [getD_at hp] at h2
  omega
set_option maxHeartbeats 4000000 in
set_option maxRecDepth 100000 in
theorem wrongEvents_calls (x : Ck) (Ae : Option Addr) (ce : Nat) (w : World) (hC : Kd.C k3 w Ae x.es.length x.es) :
    Calls Tryd.prog 67 #[ckV x Ae ce] w fun e w' => e = .returned (.bool (badEv x.es)) ∧ Below w.heap.size w w' := by
  have hv := Below.refl w.heap.size w
  obtain ⟨kd, ph, rt, dr, wh, wk, ht, ch, es⟩ := x
  simp only at hC
  unfold ckV
  simp only
  have hln : es.length ≤ 9223372036854775807 := hC.2.1
  have HC := Aside0.mk hC
  clear hC
  obtain ⟨n, hn⟩ : ∃ n, es.length = n := ⟨_, rfl⟩
  rw [hn] at hln ⊢
  have HN := Aside0.mk hn
  clear hn
  go_enter Tryd.func67, Tryd.ntmps67
  go_upto_block 0 with fail
  obtain ⟨w1, hw1⟩ : ∃ w1, w.alloc (.cells #[.int .i64 kd, .int .i64 ph, .int .i64 rt, .int .i64 dr, .int .i64 wh, .int .i64 wk, .int .i64 ht, .int .i64 ch, .slice Ae n ce] 88) = w1 := ⟨_, rfl⟩
  try rw [hw1]
  have hB : Below w.heap.size w w1 := by rw [← hw1]; exact (Below.refl _ w).alloc (by first | exact Nat.le_refl _ | (simp; done) | (simp; omega)) _
  have kx : w1.heap[w.heap.size]? = some (.cells #[.int .i64 kd, .int .i64 ph, .int .i64 rt, .int .i64 dr, .int .i64 wh, .int .i64 wk, .int .i64 ht, .int .i64 ch, .slice Ae n ce] 88 (0, 0)) := by rw [← hw1]; exact al_new _ _ _ (by first | rfl | (simp; done) | (simp; omega))
  have x0 : w1.cell? ⟨w.heap.size, 0, none⟩ = some (.int .i64 kd) := blk_cell kx 0
  have x1 : w1.cell? ⟨w.heap.size, 1, none⟩ = some (.int .i64 ph) := blk_cell kx 1
  have x2 : w1.cell? ⟨w.heap.size, 2, none⟩ = some (.int .i64 rt) := blk_cell kx 2
  have x3 : w1.cell? ⟨w.heap.size, 3, none⟩ = some (.int .i64 dr) := blk_cell kx 3
  have x4 : w1.cell? ⟨w.heap.size, 4, none⟩ = some (.int .i64 wh) := blk_cell kx 4
  have x5 : w1.cell? ⟨w.heap.size, 5, none⟩ = some (.int .i64 wk) := blk_cell kx 5
  have x6 : w1.cell? ⟨w.heap.size, 6, none⟩ = some (.int .i64 ht) := blk_cell kx 6
  have x7 : w1.cell? ⟨w.heap.size, 7, none⟩ = some (.int .i64 ch) := blk_cell kx 7
  have x8 : w1.cell? ⟨w.heap.size, 8, none⟩ = some (.slice Ae n ce) := blk_cell kx 8
  replace hv := hv.trans (hB.mono hv.size)
  clear hB hw1
  clear x0 x1 x2 x3 x4 x5 x6 x7 x8
  have HK := Aside0.mk kx
  have HV := Aside0.mk hv
  clear kx hv
  go_wp2
  go_loopw [3] (fun v wr => ∃ i : Nat, i ≤ n ∧ v = .int .i64 i ∧ Aside0 (∀ j, j < i → badAt es j = false) ∧ Aside0 (Below w1.heap.size w1 wr)) (fun v _ => n - (intOf v).toNat)
  case atStart => exact ⟨0, Nat.zero_le _, rfl, ⟨fun j hj => absurd hj (by omega)⟩, ⟨Below.refl _ _⟩⟩
  case round =>
    obtain ⟨i, hi, rfl, HJ, HB⟩ := hrel
    have HV2 := Aside0.mk (HV.out.trans (HB.out.mono HV.out.size))
    have kx := blk_on HB.out HK.out
    have x8 : wr.cell? ⟨w.heap.size, 8, none⟩ = some (.slice Ae n ce) := blk_cell kx 8
    have hlt9 := blk_lt kx
    by_cases hlt : i < n
    · have hlt' : i < es.length := by have := HN.out; omega
      have dlt : (i : Int) < (n : Int) := by omega
      have hCr := Kd.C_below HC.out HV2.out
      obtain ⟨ad, hA, hc0, hc1, hc2⟩ := C_3 hCr i hlt' hlt'
      obtain ⟨l0, l1⟩ := lastOf_pos hlt' HJ.out
      have HBA : badAt es i = (!inW es[i].1 1 4 || !inW es[i].2.1 (lastOf es i + 1) 1000000 || !inW es[i].2.2 (-sizeF es[i].1) (sizeF es[i].1)) := by unfold badAt; rw [getD_at hlt']
      have HHIT := Aside0.mk (fun h => badEv_hit hlt' (i := i) h)
      obtain ⟨⟨a, b, c⟩, hx⟩ : ∃ x, es[i] = x := ⟨_, rfl⟩
      rw [hx] at hc0 hc1 hc2 HBA
      simp only at hc0 hc1 hc2 HBA
      have HP : Aside0 (0 < i → ∃ (p : Nat) (pb : Int), p + 1 = i ∧ lastOf es i = pb ∧ 1 ≤ pb ∧ wr.cell? ⟨(ad.add (p * 3)).block, (ad.add (p * 3)).off + 1, none⟩ = some (.int .i64 pb)) := ⟨fun h => by
        obtain ⟨p, hp, e1, e2, e3⟩ := l1 h
        obtain ⟨ad2, hA2, _, d1, _⟩ := C_3 hCr p hp hp
        rw [hA] at hA2
        cases hA2
        exact ⟨p, _, e1, e2, e3, d1⟩⟩
      have HL0 := Aside0.mk l0
      have HB9 := Aside0.mk HBA
      have hsz := sizeF_b a
      subst hA
      clear l0 l1 HBA hx hCr hlt'
      go_upto_region 6 with fail
      have hw := Below.refl wr.heap.size wr
      obtain ⟨w2, hw2⟩ : ∃ w2, wr.alloc (.cells #[.int .i64 a, .int .i64 b, .int .i64 c] 90) = w2 := ⟨_, rfl⟩
      try rw [hw2]
      have hB : Below wr.heap.size wr w2 := by rw [← hw2]; exact (Below.refl _ wr).alloc (by first | exact Nat.le_refl _ | (simp; done) | (simp; omega)) _
      have ky : w2.heap[wr.heap.size]? = some (.cells #[.int .i64 a, .int .i64 b, .int .i64 c] 90 (0, 0)) := by rw [← hw2]; exact al_new _ _ _ (by first | rfl | (simp; done) | (simp; omega))
      have y0 : w2.cell? ⟨wr.heap.size, 0, none⟩ = some (.int .i64 a) := blk_cell ky 0
      have y1 : w2.cell? ⟨wr.heap.size, 1, none⟩ = some (.int .i64 b) := blk_cell ky 1
      have y2 : w2.cell? ⟨wr.heap.size, 2, none⟩ = some (.int .i64 c) := blk_cell ky 2
      clear ky
      replace x8 := cell_on hB x8
      replace hw := hw.trans (hB.mono hw.size)
      clear hB hw2
      replace hlt9 : w.heap.size < w2.heap.size := by have := hw.size; omega
      have HW := Aside0.mk hw
      clear hw
      go_upto_if 20 with fail
      go_cut [5] from 6 to 64 (fun s5 wx => ∃ v : Int, s5 = .int .i64 v ∧ Aside0 (v = if a = 1 then 10000000000000 else 0) ∧ wx = w2)
      case first =>
        by_cases h1 : a = 1
        · have d1 : (a == 1) = true := beq_iff_eq.2 h1
          go_wp2
          go_meet
          exact ⟨_, rfl, ⟨by simp [h1]⟩, rfl⟩
        · have d1 : (a == 1) = false := beq_eq_false_iff_ne.2 h1
          go_wp2
          go_meet
          exact ⟨_, rfl, ⟨by simp [h1]⟩, rfl⟩
      case rest =>
      obtain ⟨v5, rfl, HV5, rfl⟩ := hcut
      go_upto_if 23 with fail
      go_cut [5] from 6 to 64 (fun s5 wx => s5 = .int .i64 (sizeF a) ∧ wx = wc)
      case first =>
        by_cases h1 : a = 2
        · have d1 : (a == 2) = true := beq_iff_eq.2 h1
          go_wp2
          go_meet
          exact ⟨by simp [h1, sizeF], rfl⟩
        · have d1 : (a == 2) = false := beq_eq_false_iff_ne.2 h1
          go_wp2
          go_meet
          exact ⟨by rw [HV5.out]; unfold sizeF; simp [h1], rfl⟩
      case rest =>
      obtain ⟨rfl, rfl⟩ := hcut
      rename World => w9
      clear HV5
      obtain ⟨SZ, hSZ⟩ : ∃ r, sizeF a = r := ⟨_, rfl⟩
      rw [hSZ] at hsz HB9 ⊢
      clear hSZ
      have cw := fun W => within_same c SZ W (by omega)
      obtain ⟨r, hr⟩ : ∃ r, (decide (-SZ ≤ c) && decide (c ≤ SZ)) = r := ⟨_, rfl⟩
      have HR9 := Aside0.mk hr
      rw [hr] at cw
      clear hr hsz
      go_upto_region 10 with fail
      by_cases g0 : a < 1
      · have f0 : decide (a < 1) = true := decide_eq_true g0
        have f0' : decide (1 > a) = true := decide_eq_true g0
        have HT : Aside0 (badEv es = true) := ⟨HHIT.out (by rw [HB9.out]; rw [(show inW a 1 4 = false by unfold inW; simp; omega)]; simp)⟩
        go_quiet (fail)
        go_wp2
        go_ret
        exact ⟨by rw [HT.out]; rfl, below_drewN (HV2.out.trans (HW.out.mono HV2.out.size)) _⟩
      have f0 : decide (a < 1) = false := decide_eq_false g0
      have f0' : decide (1 > a) = false := decide_eq_false g0
      by_cases g1 : 4 < a
      · have f1 : decide (4 < a) = true := decide_eq_true g1
        have f1' : decide (a > 4) = true := decide_eq_true g1
        have HT : Aside0 (badEv es = true) := ⟨HHIT.out (by rw [HB9.out]; rw [(show inW a 1 4 = false by unfold inW; simp; omega)]; simp)⟩
        go_quiet (fail)
        go_wp2
        go_ret
        exact ⟨by rw [HT.out]; rfl, below_drewN (HV2.out.trans (HW.out.mono HV2.out.size)) _⟩
      have f1 : decide (4 < a) = false := decide_eq_false g1
      have f1' : decide (a > 4) = false := decide_eq_false g1
      have e1 : inW a 1 4 = true := by unfold inW; simp; omega
      have HLB : Aside0 (0 ≤ lastOf es i) := ⟨by rcases Nat.eq_zero_or_pos i with h | h; (rw [HL0.out h]; omega); (obtain ⟨p, pb, _, e2, e3, _⟩ := HP.out h; omega)⟩
      by_cases g2 : b < 1
      · have f2 : decide (b < 1) = true := decide_eq_true g2
        have f2' : decide (1 > b) = true := decide_eq_true g2
        have HT : Aside0 (badEv es = true) := ⟨HHIT.out (by rw [HB9.out]; rw [show inW b (lastOf es i + 1) 1000000 = false by have := HLB.out; unfold inW; simp; omega]; simp)⟩
        go_quiet (fail)
        go_wp2
        go_ret
        exact ⟨by rw [HT.out]; rfl, below_drewN (HV2.out.trans (HW.out.mono HV2.out.size)) _⟩
      have f2 : decide (b < 1) = false := decide_eq_false g2
      have f2' : decide (1 > b) = false := decide_eq_false g2
      by_cases g3 : 1000000 < b
      · have f3 : decide (1000000 < b) = true := decide_eq_true g3
        have f3' : decide (b > 1000000) = true := decide_eq_true g3
        have HT : Aside0 (badEv es = true) := ⟨HHIT.out (by rw [HB9.out]; rw [show inW b (lastOf es i + 1) 1000000 = false by have := HLB.out; unfold inW; simp; omega]; simp)⟩
        go_quiet (fail)
        go_wp2
        go_ret
        exact ⟨by rw [HT.out]; rfl, below_drewN (HV2.out.trans (HW.out.mono HV2.out.size)) _⟩
      have f3 : decide (1000000 < b) = false := decide_eq_false g3
      have f3' : decide (b > 1000000) = false := decide_eq_false g3
      cases r
      · have e3 : inW c (-SZ) SZ = false := HR9.out
        have HT : Aside0 (badEv es = true) := ⟨HHIT.out (by rw [HB9.out]; rw [e3]; simp)⟩
        go_quiet ((go_at_call 81; exact Calls.quiet_of_same (cw _)))
        go_wp2
        go_ret
        exact ⟨by rw [HT.out]; rfl, below_drewN (HV2.out.trans (HW.out.mono HV2.out.size)) _⟩
      · have e3 : inW c (-SZ) SZ = true := HR9.out
        by_cases g5 : 0 < i
        rotate_left
        · have e2 : inW b (lastOf es i + 1) 1000000 = true := by rw [HL0.out (by omega)]; unfold inW; simp; omega
          have f5 : decide ((0 : Int) < (i : Int)) = false := decide_eq_false (by omega)
          have f5' : decide ((i : Int) > 0) = false := decide_eq_false (by omega)
          have f5'' : ¬ (0 : Int) < (i : Int) := by omega
          have HT : Aside0 (badAt es i = false) := ⟨by rw [HB9.out]; rw [e1, e2, e3]; rfl⟩
          go_quiet ((go_at_call 81; exact Calls.quiet_of_same (cw _)))
          go_wp2
          go_roundw
          case rel => exact ⟨i + 1, by omega, by go_num, ⟨fun j hj => by by_cases ej : j = i; (subst ej; exact HT.out); exact HJ.out j (by omega)⟩, ⟨below_drewN (HB.out.trans (HW.out.mono HB.out.size)) _⟩⟩
          case measure => simp [intOf]; omega
        obtain ⟨p, pb, hp1, hp2, hp3, hpc⟩ := HP.out g5
        have f5 : decide ((0 : Int) < (i : Int)) = true := decide_eq_true (by omega)
        have f5' : (0 : Int) < (i : Int) := by omega
        have u1 : IntKind.i64.wrap ((i : Int) - 1) = (p : Int) := by rw [show (i : Int) - 1 = (p : Int) by omega]; exact C.wr _ (by omega) (by omega)
        have u2 : (p : Int) < (n : Int) := by omega
        replace hpc := (HW.out.cell (World.block_lt_of_cell? _ _ hpc)).trans hpc
        have HP2 := Aside0.mk hp2
        clear hp1 hp2
        by_cases g6 : b ≤ pb
        · have f6 : decide (b ≤ pb) = true := decide_eq_true g6
          have f6' : decide (pb ≥ b) = true := decide_eq_true g6
          have HT : Aside0 (badEv es = true) := ⟨HHIT.out (by rw [HB9.out]; rw [show inW b (lastOf es i + 1) 1000000 = false by rw [HP2.out]; unfold inW; simp; omega]; simp)⟩
          go_quiet ((go_at_call 81; exact Calls.quiet_of_same (cw _)))
          go_wp2
          go_ret
          exact ⟨by rw [HT.out]; rfl, below_drewN (HV2.out.trans (HW.out.mono HV2.out.size)) _⟩
        have f6 : decide (b ≤ pb) = false := decide_eq_false g6
        have f6' : decide (pb ≥ b) = false := decide_eq_false g6
        have e2 : inW b (lastOf es i + 1) 1000000 = true := by rw [HP2.out]; unfold inW; simp; omega
        have HT : Aside0 (badAt es i = false) := ⟨by rw [HB9.out]; rw [e1, e2, e3]; rfl⟩
        go_quiet ((go_at_call 81; exact Calls.quiet_of_same (cw _)))
        go_wp2
        go_roundw
        case rel => exact ⟨i + 1, by omega, by go_num, ⟨fun j hj => by by_cases ej : j = i; (subst ej; exact HT.out); exact HJ.out j (by omega)⟩, ⟨below_drewN (HB.out.trans (HW.out.mono HB.out.size)) _⟩⟩
        case measure => simp [intOf]; omega
    · have d1 : ¬ (i : Int) < (n : Int) := by omega
      have HE := Aside0.mk (badEv_miss (es := es) (fun j hj => HJ.out j (by have := HN.out; omega)))
      by_cases h8 : 8 < n
      · have d8 : (8 : Int) < (n : Int) := by omega
        have HR : Aside0 (badEv es = true) := ⟨by rw [HE.out, HN.out]; exact decide_eq_true h8⟩
        clear h8
        go_wp2
        go_ret
        exact ⟨by rw [HR.out]; rfl, HV2.out⟩
      · have d8 : ¬ (8 : Int) < (n : Int) := by omega
        have HR : Aside0 (badEv es = false) := ⟨by rw [HE.out, HN.out]; exact decide_eq_false h8⟩
        clear h8
        go_wp2
        go_ret
        exact ⟨by rw [HR.out]; rfl, HV2.out⟩
end Go.Proofs.YtlfnnalepdjagaaDoor.C
end

section
/- The contracts of the reference's Check and clocked. -/
namespace Go.Proofs.YtlfnnalepdjagaaDoor.C
open Go.RowKit Go.Shelf Go.Maps Go.Proofs.YtlfnnalepdjagaaDoorW.PrintWords Go.Proofs.YtlfnnalepdjagaaDoorW.PrintLast Go.Proofs.YtlfnnalepdjagaaDoorW.PrintMore
set_option linter.unusedVariables false
set_option linter.unusedSimpArgs false
theorem checkW_len {chs : List T3} {cks : List Ck} (h : ¬ ((1 ≤ chs.length ∧ chs.length ≤ 8) ∧ 1 ≤ cks.length ∧ cks.length ≤ 16)) : checkW chs cks = 2 := by
  unfold checkW
  rw [if_neg]
  simp only [Bool.and_eq_true, inW_iff]
  omega
theorem checkW_in {chs : List T3} {cks : List Ck} (h : (1 ≤ chs.length ∧ chs.length ≤ 8) ∧ 1 ≤ cks.length ∧ cks.length ≤ 16) : checkW chs cks = if chs.any badCh then 6 else if cks.any (badCk chs.length) then 20 else if cks.any (fun x => badEv x.es) then 21 else 0 := by
  unfold checkW
  rw [if_pos]
  simp only [Bool.and_eq_true, inW_iff]
  omega
set_option maxHeartbeats 4000000 in
set_option maxRecDepth 100000 in
theorem rCheck_calls (seed : Int) (Ah : Option Addr) (chc : Nat) (Ak : Option Addr) (ckc : Nat) (chs : List T3) (cks : List Ck) (w : World) (hW : WAt 90 w Ah Ak chs cks) :
    Calls Tryd.prog 25 #[woV seed Ah chs.length chc Ak cks.length ckc] w fun e w' => e = .returned (.int .i64 (checkW chs cks)) ∧ Below w.heap.size w w' := by
  have hv := Below.refl w.heap.size w
  have hlh : chs.length ≤ 9223372036854775807 := hW.h.2.1
  have hlk : cks.length ≤ 9223372036854775807 := hW.k.2.1
  have HH := Aside0.mk hW.h
  have HC := Aside0.mk hW.k
  clear hW
  obtain ⟨nh, hnh⟩ : ∃ n, chs.length = n := ⟨_, rfl⟩
  obtain ⟨nk, hnk⟩ : ∃ n, cks.length = n := ⟨_, rfl⟩
  unfold woV
  rw [hnh] at hlh ⊢
  rw [hnk] at hlk ⊢
  have HNH := Aside0.mk hnh
  have HNK := Aside0.mk hnk
  clear hnh hnk
  by_cases g1 : (nh : Int) < 1
  · have fg1 : decide ((nh : Int) < 1) = true := decide_eq_true g1
    have fg1' : decide ((1 : Int) > nh) = true := decide_eq_true g1
    have HE : Aside0 (checkW chs cks = 2) := ⟨checkW_len (by have := HNH.out; have := HNK.out; omega)⟩
    clear HH HC
    go_enter Tryd.func25, Tryd.ntmps25
    go_wp2
    go_ret
    exact ⟨by rw [HE.out]; rfl, hv.alloc (Nat.le_refl _) _⟩
  have fg1 : decide ((nh : Int) < 1) = false := decide_eq_false g1
  have fg1' : decide ((1 : Int) > nh) = false := decide_eq_false g1
  by_cases g2 : (8 : Int) < nh
  · have fg2 : decide ((8 : Int) < nh) = true := decide_eq_true g2
    have fg2' : decide ((nh : Int) > 8) = true := decide_eq_true g2
    have HE : Aside0 (checkW chs cks = 2) := ⟨checkW_len (by have := HNH.out; have := HNK.out; omega)⟩
    clear HH HC
    go_enter Tryd.func25, Tryd.ntmps25
    go_wp2
    go_ret
    exact ⟨by rw [HE.out]; rfl, hv.alloc (Nat.le_refl _) _⟩
  have fg2 : decide ((8 : Int) < nh) = false := decide_eq_false g2
  have fg2' : decide ((nh : Int) > 8) = false := decide_eq_false g2
  by_cases g3 : (nk : Int) < 1
  · have fg3 : decide ((nk : Int) < 1) = true := decide_eq_true g3
    have fg3' : decide ((1 : Int) > nk) = true := decide_eq_true g3
    have HE : Aside0 (checkW chs cks = 2) := ⟨checkW_len (by have := HNH.out; have := HNK.out; omega)⟩
    clear HH HC
    go_enter Tryd.func25, Tryd.ntmps25
    go_wp2
    go_ret
    exact ⟨by rw [HE.out]; rfl, hv.alloc (Nat.le_refl _) _⟩
  have fg3 : decide ((nk : Int) < 1) = false := decide_eq_false g3
  have fg3' : decide ((1 : Int) > nk) = false := decide_eq_false g3
  by_cases g4 : (16 : Int) < nk
  · have fg4 : decide ((16 : Int) < nk) = true := decide_eq_true g4
    have fg4' : decide ((nk : Int) > 16) = true := decide_eq_true g4
    have HE : Aside0 (checkW chs cks = 2) := ⟨checkW_len (by have := HNH.out; have := HNK.out; omega)⟩
    clear HH HC
    go_enter Tryd.func25, Tryd.ntmps25
    go_wp2
    go_ret
    exact ⟨by rw [HE.out]; rfl, hv.alloc (Nat.le_refl _) _⟩
  have fg4 : decide ((16 : Int) < nk) = false := decide_eq_false g4
  have fg4' : decide ((nk : Int) > 16) = false := decide_eq_false g4
  have HEQ := Aside0.mk (checkW_in (chs := chs) (cks := cks) (by have := HNH.out; have := HNK.out; omega))
  go_enter Tryd.func25, Tryd.ntmps25
  go_upto_block 0 with fail
  obtain ⟨w1, hw1⟩ : ∃ w1, w.alloc (.cells #[.int .u64 seed, .slice Ah nh chc, .slice Ak nk ckc] 26) = w1 := ⟨_, rfl⟩
  try rw [hw1]
  have hB : Below w.heap.size w w1 := by rw [← hw1]; exact (Below.refl _ w).alloc (by first | exact Nat.le_refl _ | (simp; done) | (simp; omega)) _
  have kx : w1.heap[w.heap.size]? = some (.cells #[.int .u64 seed, .slice Ah nh chc, .slice Ak nk ckc] 26 (0, 0)) := by rw [← hw1]; exact al_new _ _ _ (by first | rfl | (simp; done) | (simp; omega))
  have x0 : w1.cell? ⟨w.heap.size, 0, none⟩ = some (.int .u64 seed) := blk_cell kx 0
  have x1 : w1.cell? ⟨w.heap.size, 1, none⟩ = some (.slice Ah nh chc) := blk_cell kx 1
  have x2 : w1.cell? ⟨w.heap.size, 2, none⟩ = some (.slice Ak nk ckc) := blk_cell kx 2
  replace hv := hv.trans (hB.mono hv.size)
  clear hB hw1
  clear x0 x1 x2 fg1 fg1' fg2 fg2' fg3 fg3' fg4 fg4' g1 g2 g3 g4
  have HK := Aside0.mk kx
  have HV := Aside0.mk hv
  clear kx hv
  go_wp2
  go_loopw [3] (fun v wr => ∃ i : Nat, i ≤ nh ∧ v = .int .i64 i ∧ Aside0 (∀ j (hj : j < chs.length), j < i → badCh chs[j] = false) ∧ Aside0 (Below w1.heap.size w1 wr)) (fun v _ => nh - (intOf v).toNat)
  case atStart => exact ⟨0, Nat.zero_le _, rfl, ⟨fun j _ hj => absurd hj (by omega)⟩, ⟨Below.refl _ _⟩⟩
  case round =>
    obtain ⟨i, hi, rfl, HJ, HB⟩ := hrel
    have HV2 := Aside0.mk (HV.out.trans (HB.out.mono HV.out.size))
    have kx := blk_on HB.out HK.out
    have x1 : wr.cell? ⟨w.heap.size, 1, none⟩ = some (.slice Ah nh chc) := blk_cell kx 1
    have hlt9 := blk_lt kx
    by_cases hlt : i < nh
    · have hlt' : i < chs.length := by have := HNH.out; omega
      have dlt : (i : Int) < (nh : Int) := by omega
      obtain ⟨ad, rfl, hc0, hc1, hc2⟩ := C_3 (Kd.C_below HH.out HV2.out) i hlt' hlt'
      have HM := Aside0.mk (List.getElem_mem hlt')
      have HXX : Aside0 (chs[i] = chs[i]) := ⟨rfl⟩
      obtain ⟨⟨a, b, c⟩, hx⟩ : ∃ x, chs[i] = x := ⟨_, rfl⟩
      rw [hx] at hc0 hc1 hc2
      simp only at hc0 hc1 hc2
      have HX := Aside0.mk hx
      clear hx HXX
      by_cases g1 : a < 0
      · have fg1 : decide (a < 0) = true := decide_eq_true g1
        have fg1' : decide (0 > a) = true := decide_eq_true g1
        have HE : Aside0 (checkW chs cks = 6) := ⟨by rw [HEQ.out, if_pos (List.any_eq_true.2 ⟨_, HM.out, by rw [HX.out]; unfold badCh; rw [show inW a 0 1000000 = false by unfold inW; simp; omega]; simp⟩)]⟩
        go_wp2
        go_ret
        exact ⟨by rw [HE.out]; rfl, HV2.out.alloc HV2.out.size _⟩
      have fg1 : decide (a < 0) = false := decide_eq_false g1
      have fg1' : decide (0 > a) = false := decide_eq_false g1
      by_cases g2 : 1000000 < a
      · have fg2 : decide (1000000 < a) = true := decide_eq_true g2
        have fg2' : decide (a > 1000000) = true := decide_eq_true g2
        have HE : Aside0 (checkW chs cks = 6) := ⟨by rw [HEQ.out, if_pos (List.any_eq_true.2 ⟨_, HM.out, by rw [HX.out]; unfold badCh; rw [show inW a 0 1000000 = false by unfold inW; simp; omega]; simp⟩)]⟩
        go_wp2
        go_ret
        exact ⟨by rw [HE.out]; rfl, HV2.out.alloc HV2.out.size _⟩
      have fg2 : decide (1000000 < a) = false := decide_eq_false g2
      have fg2' : decide (a > 1000000) = false := decide_eq_false g2
      by_cases g3 : b < 0
      · have fg3 : decide (b < 0) = true := decide_eq_true g3
        have fg3' : decide (0 > b) = true := decide_eq_true g3
        have HE : Aside0 (checkW chs cks = 6) := ⟨by rw [HEQ.out, if_pos (List.any_eq_true.2 ⟨_, HM.out, by rw [HX.out]; unfold badCh; rw [show inW b 0 100000 = false by unfold inW; simp; omega]; simp⟩)]⟩
        go_wp2
        go_ret
        exact ⟨by rw [HE.out]; rfl, HV2.out.alloc HV2.out.size _⟩
      have fg3 : decide (b < 0) = false := decide_eq_false g3
      have fg3' : decide (0 > b) = false := decide_eq_false g3
      by_cases g4 : 100000 < b
      · have fg4 : decide (100000 < b) = true := decide_eq_true g4
        have fg4' : decide (b > 100000) = true := decide_eq_true g4
        have HE : Aside0 (checkW chs cks = 6) := ⟨by rw [HEQ.out, if_pos (List.any_eq_true.2 ⟨_, HM.out, by rw [HX.out]; unfold badCh; rw [show inW b 0 100000 = false by unfold inW; simp; omega]; simp⟩)]⟩
        go_wp2
        go_ret
        exact ⟨by rw [HE.out]; rfl, HV2.out.alloc HV2.out.size _⟩
      have fg4 : decide (100000 < b) = false := decide_eq_false g4
      have fg4' : decide (b > 100000) = false := decide_eq_false g4
      by_cases g5 : c < 2
      · have fg5 : decide (c < 2) = true := decide_eq_true g5
        have fg5' : decide (2 > c) = true := decide_eq_true g5
        have HE : Aside0 (checkW chs cks = 6) := ⟨by rw [HEQ.out, if_pos (List.any_eq_true.2 ⟨_, HM.out, by rw [HX.out]; unfold badCh; rw [show inW c 2 1000000 = false by unfold inW; simp; omega]; simp⟩)]⟩
        go_wp2
        go_ret
        exact ⟨by rw [HE.out]; rfl, HV2.out.alloc HV2.out.size _⟩
      have fg5 : decide (c < 2) = false := decide_eq_false g5
      have fg5' : decide (2 > c) = false := decide_eq_false g5
      by_cases g6 : 1000000 < c
      · have fg6 : decide (1000000 < c) = true := decide_eq_true g6
        have fg6' : decide (c > 1000000) = true := decide_eq_true g6
        have HE : Aside0 (checkW chs cks = 6) := ⟨by rw [HEQ.out, if_pos (List.any_eq_true.2 ⟨_, HM.out, by rw [HX.out]; unfold badCh; rw [show inW c 2 1000000 = false by unfold inW; simp; omega]; simp⟩)]⟩
        go_wp2
        go_ret
        exact ⟨by rw [HE.out]; rfl, HV2.out.alloc HV2.out.size _⟩
      have fg6 : decide (1000000 < c) = false := decide_eq_false g6
      have fg6' : decide (c > 1000000) = false := decide_eq_false g6
      have HT : Aside0 (badCh chs[i] = false) := ⟨by rw [HX.out]; unfold badCh; rw [show inW a 0 1000000 = true by unfold inW; simp; omega, show inW b 0 100000 = true by unfold inW; simp; omega, show inW c 2 1000000 = true by unfold inW; simp; omega]; rfl⟩
      go_wp2
      go_roundw
      case rel => exact ⟨i + 1, by omega, by go_num, ⟨fun j hj hjk => by by_cases ej : j = i; (subst ej; exact HT.out); exact HJ.out j hj (by omega)⟩, ⟨HB.out.alloc HB.out.size _⟩⟩
      case measure => simp [intOf]; omega
    · have d1 : ¬ (i : Int) < (nh : Int) := by omega
      have HE1 : Aside0 (chs.any badCh = false) := ⟨by rw [List.any_eq_false]; intro x hx; obtain ⟨j, hj, rfl⟩ := List.getElem_of_mem hx; rw [HJ.out j hj (by have := HNH.out; omega)]; simp⟩
      clear HJ hlt
      go_upto_block 2 with fail
      clear x1 d1 kx
      rename World => wa
      go_wp2
      go_loopw [5] (fun v wr => ∃ i : Nat, i ≤ nk ∧ v = .int .i64 i ∧ Aside0 (∀ j (hj : j < cks.length), j < i → badCk chs.length cks[j] = false) ∧ Aside0 (Below w1.heap.size w1 wr)) (fun v _ => nk - (intOf v).toNat)
      case atStart => exact ⟨0, Nat.zero_le _, rfl, ⟨fun j _ hj => absurd hj (by omega)⟩, ⟨HB.out⟩⟩
      case round =>
        clear HV2 hlt9 HB hi
        obtain ⟨i2, hi, rfl, HJ, HB⟩ := hrel
        have HV2 := Aside0.mk (HV.out.trans (HB.out.mono HV.out.size))
        have kx := blk_on HB.out HK.out
        have x0 : wr.cell? ⟨w.heap.size, 0, none⟩ = some (.int .u64 seed) := blk_cell kx 0
        have x1 : wr.cell? ⟨w.heap.size, 1, none⟩ = some (.slice Ah nh chc) := blk_cell kx 1
        have x2 : wr.cell? ⟨w.heap.size, 2, none⟩ = some (.slice Ak nk ckc) := blk_cell kx 2
        by_cases hlt : i2 < nk
        · have hlt' : i2 < cks.length := by have := HNK.out; omega
          have dlt : (i2 : Int) < (nk : Int) := by omega
          obtain ⟨ad, Ae, ce, rfl, hc0, hc1, hc2, hc3, hc4, hc5, hc6, hc7, hc8, hle, hCe⟩ := C_ck (Kd.C_below HC.out HV2.out) i2 hlt' hlt'
          have HM := Aside0.mk (List.getElem_mem hlt')
          have HJK := Aside0.mk (fun (h : badCk chs.length cks[i2] = false) => h)
          obtain ⟨x, hx⟩ : ∃ x, cks[i2] = x := ⟨_, rfl⟩
          rw [hx] at hc0 hc1 hc2 hc3 hc4 hc5 hc6 hc7 hc8
          have c66 := fun (W : World) => wrongClock_calls seed Ah nh chc (.slice (some ad) nk ckc) x Ae ce W (by omega)
          obtain ⟨r, hr⟩ : ∃ r, badCk nh x = r := ⟨_, rfl⟩
          rw [hr] at c66
          have HR : Aside0 (badCk chs.length cks[i2] = r) := ⟨by rw [hx, HNH.out]; exact hr⟩
          clear hx hr hCe hle HJK
          cases r
          · go_wp2_with fail
            go_still_tail 6, (by kernel_rfl)
            change wpList _ _ _ _ _ wr.drew
            go_wp2_with fail
            refine (c66 _).mono ?_
            rintro en w3 ⟨rfl, hB⟩
            have HB3 := Aside0.mk (HB.out.drew.trans (hB.mono HB.out.size))
            clear hB c66
            go_wp2
            go_roundw
            case rel => exact ⟨i2 + 1, by omega, by go_num, ⟨fun j hj hjk => by by_cases ej : j = i2; (subst ej; exact HR.out); exact HJ.out j hj (by omega)⟩, HB3⟩
            case measure => simp [intOf]; omega
          · have HE : Aside0 (checkW chs cks = 20) := ⟨by rw [HEQ.out, if_neg (by rw [HE1.out]; simp), if_pos (List.any_eq_true.2 ⟨_, HM.out, HR.out⟩)]⟩
            go_wp2_with fail
            go_still_tail 6, (by kernel_rfl)
            change wpList _ _ _ _ _ wr.drew
            go_wp2_with fail
            refine (c66 _).mono ?_
            rintro en w3 ⟨rfl, hB⟩
            have HB3 := Aside0.mk (HV2.out.drew.trans (hB.mono HV2.out.size))
            clear hB c66
            go_wp2
            go_ret
            exact ⟨by rw [HE.out]; rfl, HB3.out⟩
        · have d1 : ¬ (i2 : Int) < (nk : Int) := by omega
          have HE2 : Aside0 (cks.any (badCk chs.length) = false) := ⟨by rw [List.any_eq_false]; intro x hx; obtain ⟨j, hj, rfl⟩ := List.getElem_of_mem hx; rw [HJ.out j hj (by have := HNK.out; omega)]; simp⟩
          clear HJ hlt x0 x1
          go_upto_block 4 with fail
          clear x2 d1 kx
          rename World => wb
          go_wp2
          go_loopw [6] (fun v wr => ∃ i : Nat, i ≤ nk ∧ v = .int .i64 i ∧ Aside0 (∀ j (hj : j < cks.length), j < i → badEv cks[j].es = false) ∧ Aside0 (Below w1.heap.size w1 wr)) (fun v _ => nk - (intOf v).toNat)
          case atStart => exact ⟨0, Nat.zero_le _, rfl, ⟨fun j _ hj => absurd hj (by omega)⟩, ⟨HB.out⟩⟩
          case round =>
            clear HV2 HB hi
            obtain ⟨i3, hi, rfl, HJ, HB⟩ := hrel
            have HV2 := Aside0.mk (HV.out.trans (HB.out.mono HV.out.size))
            have kx := blk_on HB.out HK.out
            have x2 : wr.cell? ⟨w.heap.size, 2, none⟩ = some (.slice Ak nk ckc) := blk_cell kx 2
            by_cases hlt : i3 < nk
            · have hlt' : i3 < cks.length := by have := HNK.out; omega
              have dlt : (i3 : Int) < (nk : Int) := by omega
              obtain ⟨ad, Ae, ce, rfl, hc0, hc1, hc2, hc3, hc4, hc5, hc6, hc7, hc8, hle, hCe⟩ := C_ck (Kd.C_below HC.out HV2.out) i3 hlt' hlt'
              have HM := Aside0.mk (List.getElem_mem hlt')
              obtain ⟨x, hx⟩ : ∃ x, cks[i3] = x := ⟨_, rfl⟩
              rw [hx] at hc0 hc1 hc2 hc3 hc4 hc5 hc6 hc7 hc8 hCe
              have c67 := wrongEvents_calls x Ae ce wr hCe
              obtain ⟨r, hr⟩ : ∃ r, badEv x.es = r := ⟨_, rfl⟩
              rw [hr] at c67
              have HR : Aside0 (badEv cks[i3].es = r) := ⟨by rw [hx]; exact hr⟩
              clear hx hr hCe hle
              cases r
              · go_wp2_with fail
                refine c67.mono ?_
                rintro en w3 ⟨rfl, hB⟩
                have HB3 := Aside0.mk (HB.out.trans (hB.mono HB.out.size))
                clear hB c67
                go_wp2
                go_roundw
                case rel => exact ⟨i3 + 1, by omega, by go_num, ⟨fun j hj hjk => by by_cases ej : j = i3; (subst ej; exact HR.out); exact HJ.out j hj (by omega)⟩, HB3⟩
                case measure => simp [intOf]; omega
              · have HE : Aside0 (checkW chs cks = 21) := ⟨by rw [HEQ.out, if_neg (by rw [HE1.out]; simp), if_neg (by rw [HE2.out]; simp), if_pos (List.any_eq_true.2 ⟨_, HM.out, HR.out⟩)]⟩
                go_wp2_with fail
                refine c67.mono ?_
                rintro en w3 ⟨rfl, hB⟩
                have HB3 := Aside0.mk (HV2.out.trans (hB.mono HV2.out.size))
                clear hB c67
                go_wp2
                go_ret
                exact ⟨by rw [HE.out]; rfl, HB3.out⟩
            · have d1 : ¬ (i3 : Int) < (nk : Int) := by omega
              have HE3 : Aside0 (cks.any (fun x => badEv x.es) = false) := ⟨by rw [List.any_eq_false]; intro x hx; obtain ⟨j, hj, rfl⟩ := List.getElem_of_mem hx; rw [HJ.out j hj (by have := HNK.out; omega)]; simp⟩
              have HE : Aside0 (checkW chs cks = 0) := ⟨by rw [HEQ.out, if_neg (by rw [HE1.out]; simp), if_neg (by rw [HE2.out]; simp), if_neg (by rw [HE3.out]; simp)]⟩
              go_wp2
              go_ret
              exact ⟨by rw [HE.out]; rfl, HV2.out⟩
end Go.Proofs.YtlfnnalepdjagaaDoor.C
end

section
/- The contracts of the reference's clocked, Temperature and Runs. -/
namespace Go.Proofs.YtlfnnalepdjagaaDoor.C
open Go.RowKit Go.Shelf Go.Maps Go.Proofs.YtlfnnalepdjagaaDoorW.PrintWords Go.Proofs.YtlfnnalepdjagaaDoorW.PrintLast Go.Proofs.YtlfnnalepdjagaaDoorW.PrintMore
set_option linter.unusedVariables false
set_option linter.unusedSimpArgs false
theorem errS_k {chs : List T3} {cks : List Ck} {k s : Int} (h0 : checkW chs cks = 0) (hk : ¬ (0 ≤ k ∧ k < cks.length)) : errS chs cks k s = 20 := by
  have hi : inW k 0 ((cks.length : Int) - 1) = false := by unfold inW; simp; omega
  have e : errK chs cks k = 20 := by unfold errK; rw [if_pos h0, hi]; rfl
  unfold errS; rw [e, if_neg (by decide)]
theorem errK_ok {chs : List T3} {cks : List Ck} {k : Int} (h0 : checkW chs cks = 0) (hk : 0 ≤ k ∧ k < cks.length) : errK chs cks k = 0 := by
  have hi : inW k 0 ((cks.length : Int) - 1) = true := by unfold inW; simp; omega
  unfold errK; rw [if_pos h0, hi]; rfl
theorem errS_s {chs : List T3} {cks : List Ck} {k s : Int} (h0 : checkW chs cks = 0) (hk : 0 ≤ k ∧ k < cks.length) (hs : ¬ (0 ≤ s ∧ s ≤ 1000000)) : errS chs cks k s = 21 := by
  unfold errS timedF; rw [if_pos (errK_ok h0 hk), if_neg hs]
theorem errS_ok {chs : List T3} {cks : List Ck} {k s : Int} (h0 : checkW chs cks = 0) (hk : 0 ≤ k ∧ k < cks.length) (hs : 0 ≤ s ∧ s ≤ 1000000) : errS chs cks k s = 0 := by
  unfold errS timedF; rw [if_pos (errK_ok h0 hk), if_pos hs]
theorem temp_20 {chs : List T3} {cks : List Ck} {c s : Int} (h0 : checkW chs cks = 0) (hk : ¬ (0 ≤ c ∧ c < chs.length)) : tempR chs cks c s = (0, 20) := by
  have hi : inW c 0 ((chs.length : Int) - 1) = false := by unfold inW; simp; omega
  have e : errT chs cks c s = 20 := by unfold errT; rw [if_pos h0, hi]; rfl
  unfold tempR; rw [e, if_neg (by decide)]
theorem errT_in {chs : List T3} {cks : List Ck} {c s : Int} (h0 : checkW chs cks = 0) (hk : 0 ≤ c ∧ c < chs.length) : errT chs cks c s = timedF s := by
  have hi : inW c 0 ((chs.length : Int) - 1) = true := by unfold inW; simp; omega
  unfold errT; rw [if_pos h0, hi]; rfl
theorem temp_21 {chs : List T3} {cks : List Ck} {c s : Int} (h0 : checkW chs cks = 0) (hk : 0 ≤ c ∧ c < chs.length) (hs : ¬ (0 ≤ s ∧ s ≤ 1000000)) : tempR chs cks c s = (0, 21) := by
  have e : errT chs cks c s = 21 := by rw [errT_in h0 hk]; unfold timedF; rw [if_neg hs]
  unfold tempR; rw [e, if_neg (by decide)]
theorem temp_ok {chs : List T3} {cks : List Ck} {q : Nat} {s : Int} (h0 : checkW chs cks = 0) (hq : q < chs.length) (hs : 0 ≤ s ∧ s ≤ 1000000) : tempR chs cks (q : Int) s = (warmF chs[q].1 chs[q].2.1 chs[q].2.2 s, 0) := by
  have e : errT chs cks (q : Int) s = 0 := by rw [errT_in h0 (by omega)]; unfold timedF; rw [if_pos hs]
  unfold tempR; rw [if_pos e, Int.toNat_natCast, getD_at hq]
set_option maxHeartbeats 4000000 in
set_option maxRecDepth 100000 in
theorem clocked_calls (seed : Int) (Ah : Option Addr) (chc : Nat) (Ak : Option Addr) (ckc : Nat) (chs : List T3) (cks : List Ck) (k s : Int) (w : World) (hW : WAt 90 w Ah Ak chs cks) :
    Calls Tryd.prog 59 #[woV seed Ah chs.length chc Ak cks.length ckc, .int .i64 k, .int .i64 s] w fun e w' => e = .returned (.int .i64 (errS chs cks k s)) ∧ Below w.heap.size w w' := by
  have hv := Below.refl w.heap.size w
  have c25 := fun W (hB : Below w.heap.size w W) => rCheck_calls seed Ah chc Ak ckc chs cks W (hW.below hB)
  have hlk : cks.length ≤ 9223372036854775807 := hW.k.2.1
  clear hW
  by_cases h0 : checkW chs cks = 0
  rotate_left
  · have HE : Aside0 (errS chs cks k s = checkW chs cks) := ⟨by unfold errS errK; rw [if_neg h0, if_neg h0]⟩
    rw [HE.out]
    generalize checkW chs cks = E at *
    have d1 : (E == 0) = false := beq_eq_false_iff_ne.2 h0
    clear HE
    go_enter Tryd.func59, Tryd.ntmps59
    go_wp2_with fail
    obtain ⟨w1, hw1⟩ : ∃ w1, w.alloc (.cells #[.int .u64 seed, .slice Ah chs.length chc, .slice Ak cks.length ckc] 26) = w1 := ⟨_, rfl⟩
    try rw [hw1]
    have hB : Below w.heap.size w w1 := by rw [← hw1]; exact (Below.refl _ w).alloc (by first | exact Nat.le_refl _ | (simp; done) | (simp; omega)) _
    have kx : w1.heap[w.heap.size]? = some (.cells #[.int .u64 seed, .slice Ah chs.length chc, .slice Ak cks.length ckc] 26 (0, 0)) := by rw [← hw1]; exact al_new _ _ _ (by first | rfl | (simp; done) | (simp; omega))
    have x0 : w1.cell? ⟨w.heap.size, 0, none⟩ = some (.int .u64 seed) := blk_cell kx 0
    have x1 : w1.cell? ⟨w.heap.size, 1, none⟩ = some (.slice Ah chs.length chc) := blk_cell kx 1
    have x2 : w1.cell? ⟨w.heap.size, 2, none⟩ = some (.slice Ak cks.length ckc) := blk_cell kx 2
    clear kx
    replace hv := hv.trans (hB.mono hv.size)
    clear hB hw1
    refine (c25 _ hv).mono ?_
    rintro en w2 ⟨rfl, hB⟩
    replace x0 := cell_on hB x0
    replace x1 := cell_on hB x1
    replace x2 := cell_on hB x2
    replace hv := hv.trans (hB.mono hv.size)
    clear hB c25
    go_wp2
    go_ret
    exact ⟨rfl, hv⟩
  rw [h0] at c25
  have H0 := Aside0.mk h0
  clear h0
  obtain ⟨nk, hnk⟩ : ∃ n, cks.length = n := ⟨_, rfl⟩
  unfold woV at c25 ⊢
  rw [hnk] at c25 hlk ⊢
  have HNK := Aside0.mk hnk
  clear hnk
  by_cases g1 : k < 0
  · have fg1 : decide (k < 0) = true := decide_eq_true g1
    have fg1' : decide (0 > k) = true := decide_eq_true g1
    have HE : Aside0 (errS chs cks k s = 20) := ⟨by exact errS_k H0.out (by omega)⟩
    go_enter Tryd.func59, Tryd.ntmps59
    go_wp2_with fail
    obtain ⟨w1, hw1⟩ : ∃ w1, w.alloc (.cells #[.int .u64 seed, .slice Ah chs.length chc, .slice Ak nk ckc] 26) = w1 := ⟨_, rfl⟩
    try rw [hw1]
    have hB : Below w.heap.size w w1 := by rw [← hw1]; exact (Below.refl _ w).alloc (by first | exact Nat.le_refl _ | (simp; done) | (simp; omega)) _
    have kx : w1.heap[w.heap.size]? = some (.cells #[.int .u64 seed, .slice Ah chs.length chc, .slice Ak nk ckc] 26 (0, 0)) := by rw [← hw1]; exact al_new _ _ _ (by first | rfl | (simp; done) | (simp; omega))
    have x0 : w1.cell? ⟨w.heap.size, 0, none⟩ = some (.int .u64 seed) := blk_cell kx 0
    have x1 : w1.cell? ⟨w.heap.size, 1, none⟩ = some (.slice Ah chs.length chc) := blk_cell kx 1
    have x2 : w1.cell? ⟨w.heap.size, 2, none⟩ = some (.slice Ak nk ckc) := blk_cell kx 2
    clear kx
    replace hv := hv.trans (hB.mono hv.size)
    clear hB hw1
    refine (c25 _ hv).mono ?_
    rintro en w2 ⟨rfl, hB⟩
    replace x0 := cell_on hB x0
    replace x1 := cell_on hB x1
    replace x2 := cell_on hB x2
    replace hv := hv.trans (hB.mono hv.size)
    clear hB c25
    go_wp2
    go_ret
    exact ⟨by rw [HE.out]; rfl, hv⟩
  have fg1 : decide (k < 0) = false := decide_eq_false g1
  have fg1' : decide (0 > k) = false := decide_eq_false g1
  by_cases g2 : (nk : Int) ≤ k
  · have fg2 : decide ((nk : Int) ≤ k) = true := decide_eq_true g2
    have fg2' : decide (k ≥ (nk : Int)) = true := decide_eq_true g2
    have HE : Aside0 (errS chs cks k s = 20) := ⟨by exact errS_k H0.out (by have := HNK.out; omega)⟩
    go_enter Tryd.func59, Tryd.ntmps59
    go_wp2_with fail
    obtain ⟨w1, hw1⟩ : ∃ w1, w.alloc (.cells #[.int .u64 seed, .slice Ah chs.length chc, .slice Ak nk ckc] 26) = w1 := ⟨_, rfl⟩
    try rw [hw1]
    have hB : Below w.heap.size w w1 := by rw [← hw1]; exact (Below.refl _ w).alloc (by first | exact Nat.le_refl _ | (simp; done) | (simp; omega)) _
    have kx : w1.heap[w.heap.size]? = some (.cells #[.int .u64 seed, .slice Ah chs.length chc, .slice Ak nk ckc] 26 (0, 0)) := by rw [← hw1]; exact al_new _ _ _ (by first | rfl | (simp; done) | (simp; omega))
    have x0 : w1.cell? ⟨w.heap.size, 0, none⟩ = some (.int .u64 seed) := blk_cell kx 0
    have x1 : w1.cell? ⟨w.heap.size, 1, none⟩ = some (.slice Ah chs.length chc) := blk_cell kx 1
    have x2 : w1.cell? ⟨w.heap.size, 2, none⟩ = some (.slice Ak nk ckc) := blk_cell kx 2
    clear kx
    replace hv := hv.trans (hB.mono hv.size)
    clear hB hw1
    refine (c25 _ hv).mono ?_
    rintro en w2 ⟨rfl, hB⟩
    replace x0 := cell_on hB x0
    replace x1 := cell_on hB x1
    replace x2 := cell_on hB x2
    replace hv := hv.trans (hB.mono hv.size)
    clear hB c25
    go_wp2
    go_ret
    exact ⟨by rw [HE.out]; rfl, hv⟩
  have fg2 : decide ((nk : Int) ≤ k) = false := decide_eq_false g2
  have fg2' : decide (k ≥ (nk : Int)) = false := decide_eq_false g2
  by_cases g3 : s < 0
  · have fg3 : decide (s < 0) = true := decide_eq_true g3
    have fg3' : decide (0 > s) = true := decide_eq_true g3
    have HE : Aside0 (errS chs cks k s = 21) := ⟨by exact errS_s H0.out (by have := HNK.out; omega) (by omega)⟩
    go_enter Tryd.func59, Tryd.ntmps59
    go_wp2_with fail
    obtain ⟨w1, hw1⟩ : ∃ w1, w.alloc (.cells #[.int .u64 seed, .slice Ah chs.length chc, .slice Ak nk ckc] 26) = w1 := ⟨_, rfl⟩
    try rw [hw1]
    have hB : Below w.heap.size w w1 := by rw [← hw1]; exact (Below.refl _ w).alloc (by first | exact Nat.le_refl _ | (simp; done) | (simp; omega)) _
    have kx : w1.heap[w.heap.size]? = some (.cells #[.int .u64 seed, .slice Ah chs.length chc, .slice Ak nk ckc] 26 (0, 0)) := by rw [← hw1]; exact al_new _ _ _ (by first | rfl | (simp; done) | (simp; omega))
    have x0 : w1.cell? ⟨w.heap.size, 0, none⟩ = some (.int .u64 seed) := blk_cell kx 0
    have x1 : w1.cell? ⟨w.heap.size, 1, none⟩ = some (.slice Ah chs.length chc) := blk_cell kx 1
    have x2 : w1.cell? ⟨w.heap.size, 2, none⟩ = some (.slice Ak nk ckc) := blk_cell kx 2
    clear kx
    replace hv := hv.trans (hB.mono hv.size)
    clear hB hw1
    refine (c25 _ hv).mono ?_
    rintro en w2 ⟨rfl, hB⟩
    replace x0 := cell_on hB x0
    replace x1 := cell_on hB x1
    replace x2 := cell_on hB x2
    replace hv := hv.trans (hB.mono hv.size)
    clear hB c25
    go_wp2
    go_ret
    exact ⟨by rw [HE.out]; rfl, hv⟩
  have fg3 : decide (s < 0) = false := decide_eq_false g3
  have fg3' : decide (0 > s) = false := decide_eq_false g3
  by_cases g4 : 1000000 < s
  · have fg4 : decide (1000000 < s) = true := decide_eq_true g4
    have fg4' : decide (s > 1000000) = true := decide_eq_true g4
    have HE : Aside0 (errS chs cks k s = 21) := ⟨by exact errS_s H0.out (by have := HNK.out; omega) (by omega)⟩
    go_enter Tryd.func59, Tryd.ntmps59
    go_wp2_with fail
    obtain ⟨w1, hw1⟩ : ∃ w1, w.alloc (.cells #[.int .u64 seed, .slice Ah chs.length chc, .slice Ak nk ckc] 26) = w1 := ⟨_, rfl⟩
    try rw [hw1]
    have hB : Below w.heap.size w w1 := by rw [← hw1]; exact (Below.refl _ w).alloc (by first | exact Nat.le_refl _ | (simp; done) | (simp; omega)) _
    have kx : w1.heap[w.heap.size]? = some (.cells #[.int .u64 seed, .slice Ah chs.length chc, .slice Ak nk ckc] 26 (0, 0)) := by rw [← hw1]; exact al_new _ _ _ (by first | rfl | (simp; done) | (simp; omega))
    have x0 : w1.cell? ⟨w.heap.size, 0, none⟩ = some (.int .u64 seed) := blk_cell kx 0
    have x1 : w1.cell? ⟨w.heap.size, 1, none⟩ = some (.slice Ah chs.length chc) := blk_cell kx 1
    have x2 : w1.cell? ⟨w.heap.size, 2, none⟩ = some (.slice Ak nk ckc) := blk_cell kx 2
    clear kx
    replace hv := hv.trans (hB.mono hv.size)
    clear hB hw1
    refine (c25 _ hv).mono ?_
    rintro en w2 ⟨rfl, hB⟩
    replace x0 := cell_on hB x0
    replace x1 := cell_on hB x1
    replace x2 := cell_on hB x2
    replace hv := hv.trans (hB.mono hv.size)
    clear hB c25
    go_wp2
    go_ret
    exact ⟨by rw [HE.out]; rfl, hv⟩
  have fg4 : decide (1000000 < s) = false := decide_eq_false g4
  have fg4' : decide (s > 1000000) = false := decide_eq_false g4
  have HE : Aside0 (errS chs cks k s = 0) := ⟨by exact errS_ok H0.out (by have := HNK.out; omega) (by omega)⟩
  go_enter Tryd.func59, Tryd.ntmps59
  go_wp2_with fail
  obtain ⟨w1, hw1⟩ : ∃ w1, w.alloc (.cells #[.int .u64 seed, .slice Ah chs.length chc, .slice Ak nk ckc] 26) = w1 := ⟨_, rfl⟩
  try rw [hw1]
  have hB : Below w.heap.size w w1 := by rw [← hw1]; exact (Below.refl _ w).alloc (by first | exact Nat.le_refl _ | (simp; done) | (simp; omega)) _
  have kx : w1.heap[w.heap.size]? = some (.cells #[.int .u64 seed, .slice Ah chs.length chc, .slice Ak nk ckc] 26 (0, 0)) := by rw [← hw1]; exact al_new _ _ _ (by first | rfl | (simp; done) | (simp; omega))
  have x0 : w1.cell? ⟨w.heap.size, 0, none⟩ = some (.int .u64 seed) := blk_cell kx 0
  have x1 : w1.cell? ⟨w.heap.size, 1, none⟩ = some (.slice Ah chs.length chc) := blk_cell kx 1
  have x2 : w1.cell? ⟨w.heap.size, 2, none⟩ = some (.slice Ak nk ckc) := blk_cell kx 2
  clear kx
  replace hv := hv.trans (hB.mono hv.size)
  clear hB hw1
  refine (c25 _ hv).mono ?_
  rintro en w2 ⟨rfl, hB⟩
  replace x0 := cell_on hB x0
  replace x1 := cell_on hB x1
  replace x2 := cell_on hB x2
  replace hv := hv.trans (hB.mono hv.size)
  clear hB c25
  go_wp2
  go_ret
  exact ⟨by rw [HE.out]; rfl, hv⟩
theorem errS_00 (chs : List T3) (cks : List Ck) : errS chs cks 0 0 = checkW chs cks := by
  by_cases h : checkW chs cks = 0
  · have hn := (woOk_of h).nk
    rw [errS_ok h (by omega) (by omega), h]
  · unfold errS errK; rw [if_neg h, if_neg h]
set_option maxHeartbeats 4000000 in
set_option maxRecDepth 100000 in
theorem rTemperature_calls (seed : Int) (Ah : Option Addr) (chc : Nat) (Ak : Option Addr) (ckc : Nat) (chs : List T3) (cks : List Ck) (c s : Int) (w : World) (hW : WAt 90 w Ah Ak chs cks) :
    Calls Tryd.prog 23 #[woV seed Ah chs.length chc Ak cks.length ckc, .int .i64 c, .int .i64 s] w fun e w' => e = .returned (.tuple #[.int .i64 (tempR chs cks c s).1, .int .i64 (tempR chs cks c s).2]) ∧ Below w.heap.size w w' := by
  have hv := Below.refl w.heap.size w
  have c59 := fun W (hB : Below w.heap.size w W) => clocked_calls seed Ah chc Ak ckc chs cks 0 0 W (hW.below hB)
  rw [errS_00] at c59
  have hlh : chs.length ≤ 9223372036854775807 := hW.h.2.1
  have HH := Aside0.mk hW.h
  clear hW
  by_cases h0 : checkW chs cks = 0
  rotate_left
  · have HE : Aside0 (tempR chs cks c s = (0, checkW chs cks)) := ⟨by unfold tempR errT; rw [if_neg h0, if_neg h0]⟩
    rw [HE.out]
    clear HE
    generalize checkW chs cks = E at *
    have d1 : (E == 0) = false := beq_eq_false_iff_ne.2 h0
    go_enter Tryd.func23, Tryd.ntmps23
    go_wp2_with fail
    obtain ⟨w1, hw1⟩ : ∃ w1, w.alloc (.cells #[.int .u64 seed, .slice Ah chs.length chc, .slice Ak cks.length ckc] 26) = w1 := ⟨_, rfl⟩
    try rw [hw1]
    have hB : Below w.heap.size w w1 := by rw [← hw1]; exact (Below.refl _ w).alloc (by first | exact Nat.le_refl _ | (simp; done) | (simp; omega)) _
    have kx : w1.heap[w.heap.size]? = some (.cells #[.int .u64 seed, .slice Ah chs.length chc, .slice Ak cks.length ckc] 26 (0, 0)) := by rw [← hw1]; exact al_new _ _ _ (by first | rfl | (simp; done) | (simp; omega))
    have x0 : w1.cell? ⟨w.heap.size, 0, none⟩ = some (.int .u64 seed) := blk_cell kx 0
    have x1 : w1.cell? ⟨w.heap.size, 1, none⟩ = some (.slice Ah chs.length chc) := blk_cell kx 1
    have x2 : w1.cell? ⟨w.heap.size, 2, none⟩ = some (.slice Ak cks.length ckc) := blk_cell kx 2
    clear kx
    replace hv := hv.trans (hB.mono hv.size)
    clear hB hw1
    refine (c59 _ hv).mono ?_
    rintro en w2 ⟨rfl, hB⟩
    replace x0 := cell_on hB x0
    replace x1 := cell_on hB x1
    replace x2 := cell_on hB x2
    replace hv := hv.trans (hB.mono hv.size)
    clear hB c59
    go_wp2
    go_ret2
    exact ⟨rfl, hv⟩
  rw [h0] at c59
  have H0 := Aside0.mk h0
  have HOK := Aside0.mk (woOk_of h0)
  clear h0
  obtain ⟨nh, hnh⟩ : ∃ n, chs.length = n := ⟨_, rfl⟩
  unfold woV at c59 ⊢
  rw [hnh] at c59 hlh ⊢
  have HNH := Aside0.mk hnh
  clear hnh
  by_cases g1 : c < 0
  · have fg1 : decide (c < 0) = true := decide_eq_true g1
    have fg1' : decide (0 > c) = true := decide_eq_true g1
    have HE : Aside0 (tempR chs cks c s = (0, 20)) := ⟨by exact temp_20 H0.out (by have := HNH.out; omega)⟩
    go_enter Tryd.func23, Tryd.ntmps23
    go_wp2_with fail
    obtain ⟨w1, hw1⟩ : ∃ w1, w.alloc (.cells #[.int .u64 seed, .slice Ah nh chc, .slice Ak cks.length ckc] 26) = w1 := ⟨_, rfl⟩
    try rw [hw1]
    have hB : Below w.heap.size w w1 := by rw [← hw1]; exact (Below.refl _ w).alloc (by first | exact Nat.le_refl _ | (simp; done) | (simp; omega)) _
    have kx : w1.heap[w.heap.size]? = some (.cells #[.int .u64 seed, .slice Ah nh chc, .slice Ak cks.length ckc] 26 (0, 0)) := by rw [← hw1]; exact al_new _ _ _ (by first | rfl | (simp; done) | (simp; omega))
    have x0 : w1.cell? ⟨w.heap.size, 0, none⟩ = some (.int .u64 seed) := blk_cell kx 0
    have x1 : w1.cell? ⟨w.heap.size, 1, none⟩ = some (.slice Ah nh chc) := blk_cell kx 1
    have x2 : w1.cell? ⟨w.heap.size, 2, none⟩ = some (.slice Ak cks.length ckc) := blk_cell kx 2
    clear kx
    replace hv := hv.trans (hB.mono hv.size)
    clear hB hw1
    refine (c59 _ hv).mono ?_
    rintro en w2 ⟨rfl, hB⟩
    replace x0 := cell_on hB x0
    replace x1 := cell_on hB x1
    replace x2 := cell_on hB x2
    replace hv := hv.trans (hB.mono hv.size)
    clear hB c59
    go_wp2
    go_ret2
    exact ⟨by rw [HE.out]; rfl, hv⟩
  have fg1 : decide (c < 0) = false := decide_eq_false g1
  have fg1' : decide (0 > c) = false := decide_eq_false g1
  by_cases g2 : (nh : Int) ≤ c
  · have fg2 : decide ((nh : Int) ≤ c) = true := decide_eq_true g2
    have fg2' : decide (c ≥ (nh : Int)) = true := decide_eq_true g2
    have HE : Aside0 (tempR chs cks c s = (0, 20)) := ⟨by exact temp_20 H0.out (by have := HNH.out; omega)⟩
    go_enter Tryd.func23, Tryd.ntmps23
    go_wp2_with fail
    obtain ⟨w1, hw1⟩ : ∃ w1, w.alloc (.cells #[.int .u64 seed, .slice Ah nh chc, .slice Ak cks.length ckc] 26) = w1 := ⟨_, rfl⟩
    try rw [hw1]
    have hB : Below w.heap.size w w1 := by rw [← hw1]; exact (Below.refl _ w).alloc (by first | exact Nat.le_refl _ | (simp; done) | (simp; omega)) _
    have kx : w1.heap[w.heap.size]? = some (.cells #[.int .u64 seed, .slice Ah nh chc, .slice Ak cks.length ckc] 26 (0, 0)) := by rw [← hw1]; exact al_new _ _ _ (by first | rfl | (simp; done) | (simp; omega))
    have x0 : w1.cell? ⟨w.heap.size, 0, none⟩ = some (.int .u64 seed) := blk_cell kx 0
    have x1 : w1.cell? ⟨w.heap.size, 1, none⟩ = some (.slice Ah nh chc) := blk_cell kx 1
    have x2 : w1.cell? ⟨w.heap.size, 2, none⟩ = some (.slice Ak cks.length ckc) := blk_cell kx 2
    clear kx
    replace hv := hv.trans (hB.mono hv.size)
    clear hB hw1
    refine (c59 _ hv).mono ?_
    rintro en w2 ⟨rfl, hB⟩
    replace x0 := cell_on hB x0
    replace x1 := cell_on hB x1
    replace x2 := cell_on hB x2
    replace hv := hv.trans (hB.mono hv.size)
    clear hB c59
    go_wp2
    go_ret2
    exact ⟨by rw [HE.out]; rfl, hv⟩
  have fg2 : decide ((nh : Int) ≤ c) = false := decide_eq_false g2
  have fg2' : decide (c ≥ (nh : Int)) = false := decide_eq_false g2
  by_cases g3 : s < 0
  · have fg3 : decide (s < 0) = true := decide_eq_true g3
    have fg3' : decide (0 > s) = true := decide_eq_true g3
    have HE : Aside0 (tempR chs cks c s = (0, 21)) := ⟨by exact temp_21 H0.out (by have := HNH.out; omega) (by omega)⟩
    go_enter Tryd.func23, Tryd.ntmps23
    go_wp2_with fail
    obtain ⟨w1, hw1⟩ : ∃ w1, w.alloc (.cells #[.int .u64 seed, .slice Ah nh chc, .slice Ak cks.length ckc] 26) = w1 := ⟨_, rfl⟩
    try rw [hw1]
    have hB : Below w.heap.size w w1 := by rw [← hw1]; exact (Below.refl _ w).alloc (by first | exact Nat.le_refl _ | (simp; done) | (simp; omega)) _
    have kx : w1.heap[w.heap.size]? = some (.cells #[.int .u64 seed, .slice Ah nh chc, .slice Ak cks.length ckc] 26 (0, 0)) := by rw [← hw1]; exact al_new _ _ _ (by first | rfl | (simp; done) | (simp; omega))
    have x0 : w1.cell? ⟨w.heap.size, 0, none⟩ = some (.int .u64 seed) := blk_cell kx 0
    have x1 : w1.cell? ⟨w.heap.size, 1, none⟩ = some (.slice Ah nh chc) := blk_cell kx 1
    have x2 : w1.cell? ⟨w.heap.size, 2, none⟩ = some (.slice Ak cks.length ckc) := blk_cell kx 2
    clear kx
    replace hv := hv.trans (hB.mono hv.size)
    clear hB hw1
    refine (c59 _ hv).mono ?_
    rintro en w2 ⟨rfl, hB⟩
    replace x0 := cell_on hB x0
    replace x1 := cell_on hB x1
    replace x2 := cell_on hB x2
    replace hv := hv.trans (hB.mono hv.size)
    clear hB c59
    go_wp2
    go_ret2
    exact ⟨by rw [HE.out]; rfl, hv⟩
  have fg3 : decide (s < 0) = false := decide_eq_false g3
  have fg3' : decide (0 > s) = false := decide_eq_false g3
  by_cases g4 : 1000000 < s
  · have fg4 : decide (1000000 < s) = true := decide_eq_true g4
    have fg4' : decide (s > 1000000) = true := decide_eq_true g4
    have HE : Aside0 (tempR chs cks c s = (0, 21)) := ⟨by exact temp_21 H0.out (by have := HNH.out; omega) (by omega)⟩
    go_enter Tryd.func23, Tryd.ntmps23
    go_wp2_with fail
    obtain ⟨w1, hw1⟩ : ∃ w1, w.alloc (.cells #[.int .u64 seed, .slice Ah nh chc, .slice Ak cks.length ckc] 26) = w1 := ⟨_, rfl⟩
    try rw [hw1]
    have hB : Below w.heap.size w w1 := by rw [← hw1]; exact (Below.refl _ w).alloc (by first | exact Nat.le_refl _ | (simp; done) | (simp; omega)) _
    have kx : w1.heap[w.heap.size]? = some (.cells #[.int .u64 seed, .slice Ah nh chc, .slice Ak cks.length ckc] 26 (0, 0)) := by rw [← hw1]; exact al_new _ _ _ (by first | rfl | (simp; done) | (simp; omega))
    have x0 : w1.cell? ⟨w.heap.size, 0, none⟩ = some (.int .u64 seed) := blk_cell kx 0
    have x1 : w1.cell? ⟨w.heap.size, 1, none⟩ = some (.slice Ah nh chc) := blk_cell kx 1
    have x2 : w1.cell? ⟨w.heap.size, 2, none⟩ = some (.slice Ak cks.length ckc) := blk_cell kx 2
    clear kx
    replace hv := hv.trans (hB.mono hv.size)
    clear hB hw1
    refine (c59 _ hv).mono ?_
    rintro en w2 ⟨rfl, hB⟩
    replace x0 := cell_on hB x0
    replace x1 := cell_on hB x1
    replace x2 := cell_on hB x2
    replace hv := hv.trans (hB.mono hv.size)
    clear hB c59
    go_wp2
    go_ret2
    exact ⟨by rw [HE.out]; rfl, hv⟩
  have fg4 : decide (1000000 < s) = false := decide_eq_false g4
  have fg4' : decide (s > 1000000) = false := decide_eq_false g4
  obtain ⟨q, rfl⟩ : ∃ q : Nat, c = q := ⟨c.toNat, by omega⟩
  have hq : q < chs.length := by have := HNH.out; omega
  have hqc : (q : Int) < (nh : Int) := by omega
  have hc := HOK.out.ch _ (List.getElem_mem hq)
  have HE : Aside0 (tempR chs cks (q : Int) s = (warmF chs[q].1 chs[q].2.1 chs[q].2.2 s, 0)) := ⟨temp_ok H0.out hq (by omega)⟩
  have c60 := fun W => warmth_calls chs[q].1 chs[q].2.1 chs[q].2.2 s W hc.b hc.s hc.p (by omega)
  go_enter Tryd.func23, Tryd.ntmps23
  go_wp2_with fail
  obtain ⟨w1, hw1⟩ : ∃ w1, w.alloc (.cells #[.int .u64 seed, .slice Ah nh chc, .slice Ak cks.length ckc] 26) = w1 := ⟨_, rfl⟩
  try rw [hw1]
  have hB : Below w.heap.size w w1 := by rw [← hw1]; exact (Below.refl _ w).alloc (by first | exact Nat.le_refl _ | (simp; done) | (simp; omega)) _
  have kx : w1.heap[w.heap.size]? = some (.cells #[.int .u64 seed, .slice Ah nh chc, .slice Ak cks.length ckc] 26 (0, 0)) := by rw [← hw1]; exact al_new _ _ _ (by first | rfl | (simp; done) | (simp; omega))
  have x0 : w1.cell? ⟨w.heap.size, 0, none⟩ = some (.int .u64 seed) := blk_cell kx 0
  have x1 : w1.cell? ⟨w.heap.size, 1, none⟩ = some (.slice Ah nh chc) := blk_cell kx 1
  have x2 : w1.cell? ⟨w.heap.size, 2, none⟩ = some (.slice Ak cks.length ckc) := blk_cell kx 2
  clear kx
  replace hv := hv.trans (hB.mono hv.size)
  clear hB hw1
  refine (c59 _ hv).mono ?_
  rintro en w2 ⟨rfl, hB⟩
  replace x0 := cell_on hB x0
  replace x1 := cell_on hB x1
  replace x2 := cell_on hB x2
  replace hv := hv.trans (hB.mono hv.size)
  clear hB c59
  obtain ⟨ad, rfl, hc0, hc1, hc2⟩ := C_3 (Kd.C_below HH.out hv) q hq (by have := HNH.out; omega)
  obtain ⟨⟨a, b, d⟩, hx⟩ : ∃ x, chs[q] = x := ⟨_, rfl⟩
  rw [hx] at hc0 hc1 hc2 c60 HE
  simp only at hc0 hc1 hc2 c60 HE
  clear hx hc hq
  go_wp2_with fail
  refine (c60 _).mono ?_
  rintro en w3 ⟨rfl, hB⟩
  replace hv := hv.trans (hB.mono hv.size)
  clear hB c60
  go_wp2
  go_ret2
  exact ⟨by rw [HE.out]; rfl, hv⟩
set_option maxHeartbeats 4000000 in
set_option maxRecDepth 100000 in
theorem rRuns_calls (seed : Int) (Ah : Option Addr) (chc : Nat) (Ak : Option Addr) (ckc : Nat) (chs : List T3) (cks : List Ck) (k s : Int) (w : World) (hW : WAt 90 w Ah Ak chs cks) :
    Calls Tryd.prog 27 #[woV seed Ah chs.length chc Ak cks.length ckc, .int .i64 k, .int .i64 s] w fun e w' => e = .returned (.tuple #[.bool (if errS chs cks k s = 0 then runsF (ckAt cks k).es s else false), .int .i64 (errS chs cks k s)]) ∧ Below w.heap.size w w' := by
  have hv := Below.refl w.heap.size w
  have c59 := fun W (hB : Below w.heap.size w W) => clocked_calls seed Ah chc Ak ckc chs cks k s W (hW.below hB)
  have HC := Aside0.mk hW.k
  clear hW
  by_cases h0 : errS chs cks k s = 0
  rotate_left
  · rw [if_neg h0]
    generalize errS chs cks k s = E at *
    have d1 : (E == 0) = false := beq_eq_false_iff_ne.2 h0
    go_enter Tryd.func27, Tryd.ntmps27
    go_wp2_with fail
    obtain ⟨w1, hw1⟩ : ∃ w1, w.alloc (.cells #[.int .u64 seed, .slice Ah chs.length chc, .slice Ak cks.length ckc] 26) = w1 := ⟨_, rfl⟩
    try rw [hw1]
    have hB : Below w.heap.size w w1 := by rw [← hw1]; exact (Below.refl _ w).alloc (by first | exact Nat.le_refl _ | (simp; done) | (simp; omega)) _
    have kx : w1.heap[w.heap.size]? = some (.cells #[.int .u64 seed, .slice Ah chs.length chc, .slice Ak cks.length ckc] 26 (0, 0)) := by rw [← hw1]; exact al_new _ _ _ (by first | rfl | (simp; done) | (simp; omega))
    have x0 : w1.cell? ⟨w.heap.size, 0, none⟩ = some (.int .u64 seed) := blk_cell kx 0
    have x1 : w1.cell? ⟨w.heap.size, 1, none⟩ = some (.slice Ah chs.length chc) := blk_cell kx 1
    have x2 : w1.cell? ⟨w.heap.size, 2, none⟩ = some (.slice Ak cks.length ckc) := blk_cell kx 2
    clear kx
    replace hv := hv.trans (hB.mono hv.size)
    clear hB hw1
    refine (c59 _ hv).mono ?_
    rintro en w2 ⟨rfl, hB⟩
    replace x0 := cell_on hB x0
    replace x1 := cell_on hB x1
    replace x2 := cell_on hB x2
    replace hv := hv.trans (hB.mono hv.size)
    clear hB c59
    go_wp2
    go_ret2
    exact ⟨rfl, hv⟩
  rw [if_pos h0]
  have hz := errS_zero h0
  have hk := errK_zero hz.1
  rw [h0] at c59 ⊢
  clear h0 hz
  obtain ⟨i, rfl⟩ : ∃ i : Nat, k = i := ⟨k.toNat, by omega⟩
  have hi : i < cks.length := by omega
  have hi2 : (i : Int) < (cks.length : Int) := by omega
  clear hk
  rw [ckAt_of hi]
  obtain ⟨x, hx⟩ : ∃ x, cks[i] = x := ⟨_, rfl⟩
  rw [hx]
  have HX := Aside0.mk hx
  clear hx
  go_enter Tryd.func27, Tryd.ntmps27
  go_wp2_with fail
  obtain ⟨w1, hw1⟩ : ∃ w1, w.alloc (.cells #[.int .u64 seed, .slice Ah chs.length chc, .slice Ak cks.length ckc] 26) = w1 := ⟨_, rfl⟩
  try rw [hw1]
  have hB : Below w.heap.size w w1 := by rw [← hw1]; exact (Below.refl _ w).alloc (by first | exact Nat.le_refl _ | (simp; done) | (simp; omega)) _
  have kx : w1.heap[w.heap.size]? = some (.cells #[.int .u64 seed, .slice Ah chs.length chc, .slice Ak cks.length ckc] 26 (0, 0)) := by rw [← hw1]; exact al_new _ _ _ (by first | rfl | (simp; done) | (simp; omega))
  have x0 : w1.cell? ⟨w.heap.size, 0, none⟩ = some (.int .u64 seed) := blk_cell kx 0
  have x1 : w1.cell? ⟨w.heap.size, 1, none⟩ = some (.slice Ah chs.length chc) := blk_cell kx 1
  have x2 : w1.cell? ⟨w.heap.size, 2, none⟩ = some (.slice Ak cks.length ckc) := blk_cell kx 2
  clear kx
  replace hv := hv.trans (hB.mono hv.size)
  clear hB hw1
  refine (c59 _ hv).mono ?_
  rintro en w2 ⟨rfl, hB⟩
  replace x0 := cell_on hB x0
  replace x1 := cell_on hB x1
  replace x2 := cell_on hB x2
  replace hv := hv.trans (hB.mono hv.size)
  clear hB c59
  obtain ⟨ad, Ae, ce, rfl, hc0, hc1, hc2, hc3, hc4, hc5, hc6, hc7, hc8, hle, hCe⟩ := C_ck (Kd.C_below HC.out hv) i hi hi
  have c68 := running_calls cks[i] Ae ce s _ hCe
  rw [HX.out] at hc0 hc1 hc2 hc3 hc4 hc5 hc6 hc7 hc8 c68
  clear hle hCe
  go_wp2_with fail
  refine c68.mono ?_
  rintro en w3 ⟨rfl, hB⟩
  replace hv := hv.trans (hB.mono hv.size)
  clear hB c68
  go_wp2
  go_ret2
  exact ⟨rfl, hv⟩
end Go.Proofs.YtlfnnalepdjagaaDoor.C
end

section
/- The contracts of the reference's phase, shown, Phase, Shown and Read. -/
namespace Go.Proofs.YtlfnnalepdjagaaDoor.C
open Go.RowKit Go.Shelf Go.Maps Go.Proofs.YtlfnnalepdjagaaDoorW.PrintWords Go.Proofs.YtlfnnalepdjagaaDoorW.PrintLast Go.Proofs.YtlfnnalepdjagaaDoorW.PrintMore
set_option linter.unusedVariables false
set_option linter.unusedSimpArgs false
theorem wat86 {w : World} {Ah Ak : Option Addr} {chs : List T3} {cks : List Ck} (h : WAt 90 w Ah Ak chs cks) : WAt 86 w Ah Ak chs cks := ⟨h.h, h.k⟩
theorem steps_snoc1 (seed k wk : Int) : ∀ (n : Nat) (a : Int), stepsT seed k wk a (n + 1) = stepsT seed k wk a n ++ [drawF seed 1 k (a + n) wk]
  | 0, a => by simp [stepsT]
  | n + 1, a => by
    rw [stepsT, steps_snoc1 seed k wk n (a + 1), stepsT]
    simp only [List.cons_append, show a + 1 + (n : Int) = a + ((n + 1 : Nat) : Int) by omega]
/-- The walk's first steps. -/
def partW (seed k wk : Int) (j : Nat) : Int := (stepsT seed k wk 1 j).foldl (· + ·) 0
theorem partW_next (seed k wk : Int) (j : Nat) : partW seed k wk (j + 1) = partW seed k wk j + drawF seed 1 k (1 + j) wk := by
  unfold partW; rw [steps_snoc1, List.foldl_append]; rfl
theorem partW_b {seed k wk : Int} (h : 0 ≤ wk ∧ wk ≤ 1000000000) {j : Nat} (hj : j ≤ 10000) : -10000000000000 ≤ partW seed k wk j ∧ partW seed k wk j ≤ 10000000000000 := by
  have hb := fold_b wk h.1 (stepsT seed k wk 1 j) 0 (stepsT_b seed k wk h.1 j 1)
  rw [stepsT_len] at hb
  have h2 : wk * (j : Int) ≤ 1000000000 * 10000 := Int.mul_le_mul h.2 (by omega) (by omega) (by omega)
  unfold partW
  omega
theorem partW_all {seed k wk s : Int} : walkedF seed k wk 0 s = partW seed k wk (stepsN 0 s) := by unfold walkedF partW; rfl
set_option maxHeartbeats 4000000 in
set_option maxRecDepth 100000 in
theorem rphase_calls (seed : Int) (Ah : Option Addr) (chc : Nat) (Ak : Option Addr) (ckc : Nat) (chs : List T3) (cks : List Ck) (i : Nat) (s : Int) (w : World) (hW : WAt 90 w Ah Ak chs cks) (hOK : WoOk chs cks) (hi : i < cks.length) (hs : 0 ≤ s ∧ s ≤ 1000000) :
    Calls Tryd.prog 69 #[woV seed Ah chs.length chc Ak cks.length ckc, .int .i64 (i : Int), .int .i64 s] w fun e w' => e = .returned (.int .i64 (phaseF seed chs cks i s)) ∧ Below w.heap.size w w' := by
  have hv := Below.refl w.heap.size w
  obtain ⟨hO, hEv, q, hq, hxq, hc⟩ := hOK.at hi
  have hik : 0 ≤ (i : Int) ∧ (i : Int) ≤ 1000000000000000 := by have := hOK.nk; omega
  have c72 := fun W (hB : Below w.heap.size w W) => rstill_calls seed Ah chc Ak ckc chs cks i hi q hq s W (wat86 (hW.below hB)) hxq chs.length hO hEv hc hs
  have hst := still_b hO hEv hc hs
  have hwk : 0 ≤ cks[i].wk ∧ cks[i].wk ≤ 1000000000 := ⟨hO.wk.1, (rt_b hO).2.2.2⟩
  rw [phaseF_of hi rfl hq hxq]
  obtain ⟨S, hS⟩ : ∃ v, stillF cks[i] chs[q] s = v := ⟨_, rfl⟩
  rw [hS] at c72 hst ⊢
  clear hS hO hEv hc hxq hq hOK
  have HC := Aside0.mk hW.k
  have hlk : cks.length ≤ 9223372036854775807 := hW.k.2.1
  have hi2 : (i : Int) < (cks.length : Int) := by omega
  clear hW
  rw [partW_all]
  obtain ⟨N, hN⟩ : ∃ n, stepsN 0 s = n := ⟨_, rfl⟩
  have hN2 : (N : Int) = s / 100 := by rw [← hN]; unfold stepsN; omega
  have hN3 : N ≤ 10000 := by omega
  rw [hN]
  clear hN
  have q1 : IntKind.i64.wrap (s.tdiv 100) = (N : Int) := by rw [Int.tdiv_eq_ediv_of_nonneg hs.1, ← hN2]; exact wr _ (by omega) (by omega)
  have HPB := Aside0.mk (fun (j : Nat) (hj : j ≤ N) => partW_b (seed := seed) (k := (i : Int)) hwk (j := j) (by omega))
  have HC40 := Aside0.mk (fun (j : Int) (hj : 0 ≤ j ∧ j ≤ 1000000) (W : World) => rdraw_calls seed 1 (i : Int) j cks[i].wk W (by omega) hik (by omega) (by omega))
  have HDR := Aside0.mk (fun (j : Int) => drawF_range seed 1 (i : Int) j cks[i].wk hwk.1)
  clear hN2
  go_enter Tryd.func69, Tryd.ntmps69
  go_wp2_with fail
  obtain ⟨w1, hw1⟩ : ∃ w1, w.alloc (.cells #[.int .u64 seed, .slice Ah chs.length chc, .slice Ak cks.length ckc] 26) = w1 := ⟨_, rfl⟩
  try rw [hw1]
  have hB : Below w.heap.size w w1 := by rw [← hw1]; exact (Below.refl _ w).alloc (by first | exact Nat.le_refl _ | (simp; done) | (simp; omega)) _
  have kx : w1.heap[w.heap.size]? = some (.cells #[.int .u64 seed, .slice Ah chs.length chc, .slice Ak cks.length ckc] 26 (0, 0)) := by rw [← hw1]; exact al_new _ _ _ (by first | rfl | (simp; done) | (simp; omega))
  have x0 : w1.cell? ⟨w.heap.size, 0, none⟩ = some (.int .u64 seed) := blk_cell kx 0
  have x1 : w1.cell? ⟨w.heap.size, 1, none⟩ = some (.slice Ah chs.length chc) := blk_cell kx 1
  have x2 : w1.cell? ⟨w.heap.size, 2, none⟩ = some (.slice Ak cks.length ckc) := blk_cell kx 2
  replace hv := hv.trans (hB.mono hv.size)
  clear hB hw1
  clear x0 x1 x2
  refine (c72 _ hv).mono ?_
  rintro en w2 ⟨rfl, hB⟩
  replace kx := blk_on hB kx
  replace hv := hv.trans (hB.mono hv.size)
  clear hB c72
  have HK := Aside0.mk kx
  have HV := Aside0.mk hv
  clear kx hv
  have HW2 := Aside0.mk hwk
  have HST := Aside0.mk hst
  clear hwk hst
  go_wp2
  go_loopw [8, 7] (fun v8 v7 wr => ∃ j : Nat, j ≤ N ∧ v8 = .int .i64 (1 + j) ∧ v7 = .int .i64 (S + partW seed i cks[i].wk j) ∧ Aside0 (Below w2.heap.size w2 wr)) (fun v _ _ => N + 1 - (intOf v).toNat)
  case atStart => exact ⟨0, Nat.zero_le _, rfl, by simp [partW, stepsT], ⟨Below.refl _ _⟩⟩
  case round =>
    obtain ⟨j, hj, rfl, rfl, HB⟩ := hrel
    have HV2 := Aside0.mk (HV.out.trans (HB.out.mono HV.out.size))
    have kx := blk_on HB.out HK.out
    have x0 : wr.cell? ⟨w.heap.size, 0, none⟩ = some (.int .u64 seed) := blk_cell kx 0
    have x2 : wr.cell? ⟨w.heap.size, 2, none⟩ = some (.slice Ak cks.length ckc) := blk_cell kx 2
    clear kx
    have hpb := HPB.out j hj
    by_cases hlt : j < N
    · have dlt : (1 : Int) + (j : Int) ≤ (N : Int) := by omega
      have dlt' : decide ((1 : Int) + (j : Int) ≤ (N : Int)) = true := decide_eq_true dlt
      have hpn := partW_next seed i cks[i].wk j
      have hpb2 := HPB.out (j + 1) hlt
      have c40 := HC40.out (1 + j) (by omega)
      obtain ⟨ad, Ae, ce, rfl, hc0, hc1, hc2, hc3, hc4, hc5, hc6, hc7, hc8, hle, hCe⟩ := C_ck (Kd.C_below HC.out HV2.out) i hi hi
      obtain ⟨D, hD⟩ : ∃ d, drawF seed 1 i (1 + j) cks[i].wk = d := ⟨_, rfl⟩
      obtain ⟨P, hP⟩ : ∃ d, partW seed i cks[i].wk j = d := ⟨_, rfl⟩
      rw [hD] at c40 hpn
      rw [hP] at hpn hpb ⊢
      rw [hpn] at hpb2
      have v1 : IntKind.i64.wrap (S + P + D) = S + P + D := C.wr _ (by have := HST.out; omega) (by have := HST.out; omega)
      have v2 : IntKind.i64.wrap (1 + (j : Int) + 1) = 1 + (j : Int) + 1 := C.wr _ (by omega) (by omega)
      have HPN := Aside0.mk hpn
      obtain ⟨wk, hwk⟩ : ∃ d, cks[i].wk = d := ⟨_, rfl⟩
      rw [hwk] at hc5 c40
      clear hc0 hc1 hc2 hc3 hc4 hc6 hc7 hc8 hle hCe hpn hpb hpb2 hD hP hwk
      go_wp2_with fail
      have hS : ∀ w', Below wr.heap.size wr w' → ((w'.cell? ⟨w.heap.size, 0, none⟩ = some (.int .u64 seed) ∧ w'.cell? ⟨w.heap.size, 2, none⟩ = some (.slice (some ad) cks.length ckc) ∧ w'.cell? ⟨(ad.add (i * 9)).block, (ad.add (i * 9)).off + 5, none⟩ = some (.int .i64 wk)) ∧ Below wr.heap.size wr w') := fun w' hB => ⟨⟨cell_on hB x0, cell_on hB x2, cell_on hB hc5⟩, hB⟩
      go_region_held3 (fun w' => (w'.cell? ⟨w.heap.size, 0, none⟩ = some (.int .u64 seed) ∧ w'.cell? ⟨w.heap.size, 2, none⟩ = some (.slice (some ad) cks.length ckc) ∧ w'.cell? ⟨(ad.add (i * 9)).block, (ad.add (i * 9)).off + 5, none⟩ = some (.int .i64 wk)) ∧ Below wr.heap.size wr w') (first | exact hS _ (Below.refl _ _).drew | assumption | (have hh := ‹(_ ∧ _ ∧ _) ∧ Below wr.heap.size wr _›; exact hS _ (hh.2.trans (hB.mono hh.2.size))))
        (first | (go_at_call 40; with_reducible refine (c40 _).mono ?_; rintro e w' ⟨rfl, hB⟩))
      rename_i hHeld
      have HB3 := Aside0.mk (HB.out.trans (hHeld.2.mono HB.out.size))
      clear hHeld hS c40 x0 x2 hc5
      go_wp2
      go_roundw
      case rel => exact ⟨j + 1, hlt, by first | (congr 1; push_cast; omega) | (simp; omega), by rw [HPN.out, Int.add_assoc], HB3⟩
      case measure => simp [intOf]; omega
    · have dlt : ¬ (1 : Int) + (j : Int) ≤ (N : Int) := by omega
      have dlt' : decide ((1 : Int) + (j : Int) ≤ (N : Int)) = false := decide_eq_false dlt
      obtain rfl : j = N := by omega
      go_wp2
      go_ret
      exact ⟨rfl, HV2.out⟩
end Go.Proofs.YtlfnnalepdjagaaDoor.C
end

section
/- The contracts of the reference's shown, Phase, Shown and Read. -/
namespace Go.Proofs.YtlfnnalepdjagaaDoor.C
open Go.RowKit Go.Shelf Go.Maps Go.Proofs.YtlfnnalepdjagaaDoorW.PrintWords Go.Proofs.YtlfnnalepdjagaaDoorW.PrintLast Go.Proofs.YtlfnnalepdjagaaDoorW.PrintMore
set_option linter.unusedVariables false
set_option linter.unusedSimpArgs false
set_option maxHeartbeats 4000000 in
set_option maxRecDepth 100000 in
theorem rshown_calls (seed : Int) (Ah : Option Addr) (chc : Nat) (Ak : Option Addr) (ckc : Nat) (chs : List T3) (cks : List Ck) (i : Nat) (s : Int) (w : World) (hW : WAt 90 w Ah Ak chs cks) (hOK : WoOk chs cks) (hi : i < cks.length) (hs : 0 ≤ s ∧ s ≤ 1000000) :
    Calls Tryd.prog 70 #[woV seed Ah chs.length chc Ak cks.length ckc, .int .i64 (i : Int), .int .i64 s] w fun e w' => e = .returned (.int .i64 (shownF seed chs cks i s)) ∧ Below w.heap.size w w' := by
  have hv := Below.refl w.heap.size w
  have hik : 0 ≤ (i : Int) ∧ (i : Int) ≤ 1000000000000000 := by have := hOK.nk; omega
  have c69 := fun W (hB : Below w.heap.size w W) => rphase_calls seed Ah chc Ak ckc chs cks i s W (hW.below hB) hOK hi hs
  have hp := phase_tight (seed := seed) hOK hi hs
  have hsh := shown_tight (seed := seed) hOK hi hs
  obtain ⟨hO, _⟩ := hOK.at hi
  have hwh0 := hO.wh.1
  have hwh1 := (rt_b hO).2.2.1
  clear hO hOK
  unfold shownF at hsh ⊢
  rw [ckAt_of hi] at hsh ⊢
  have hlk : cks.length ≤ 9223372036854775807 := hW.k.2.1
  have hi2 : (i : Int) < (cks.length : Int) := by omega
  obtain ⟨ad, Ae, ce, rfl, hc0, hc1, hc2, hc3, hc4, hc5, hc6, hc7, hc8, hle, hCe⟩ := C_ck hW.k i hi hi
  clear hc0 hc1 hc2 hc3 hc5 hc6 hc7 hc8 hle hCe hW
  obtain ⟨wh, hwh⟩ : ∃ d, cks[i].wh = d := ⟨_, rfl⟩
  rw [hwh] at hc4 hsh hwh0 hwh1 ⊢
  clear hwh
  have c40 := fun (W : World) => rdraw_calls seed 2 (i : Int) s wh W (by omega) hik (by omega) (by omega)
  generalize phaseF seed chs cks i s = P at *
  generalize drawF seed 2 i s wh = D at *
  have v1 : IntKind.i64.wrap (P + D) = P + D := wr _ (by omega) (by omega)
  clear hp hsh hwh0 hwh1 hik hs
  go_enter Tryd.func70, Tryd.ntmps70
  go_upto_region 1 with fail
  obtain ⟨w1, hw1⟩ : ∃ w1, w.alloc (.cells #[.int .u64 seed, .slice Ah chs.length chc, .slice (some ad) cks.length ckc] 26) = w1 := ⟨_, rfl⟩
  try rw [hw1]
  have hB : Below w.heap.size w w1 := by rw [← hw1]; exact (Below.refl _ w).alloc (by first | exact Nat.le_refl _ | (simp; done) | (simp; omega)) _
  have kx : w1.heap[w.heap.size]? = some (.cells #[.int .u64 seed, .slice Ah chs.length chc, .slice (some ad) cks.length ckc] 26 (0, 0)) := by rw [← hw1]; exact al_new _ _ _ (by first | rfl | (simp; done) | (simp; omega))
  have x0 : w1.cell? ⟨w.heap.size, 0, none⟩ = some (.int .u64 seed) := blk_cell kx 0
  have x1 : w1.cell? ⟨w.heap.size, 1, none⟩ = some (.slice Ah chs.length chc) := blk_cell kx 1
  have x2 : w1.cell? ⟨w.heap.size, 2, none⟩ = some (.slice (some ad) cks.length ckc) := blk_cell kx 2
  clear kx
  replace hc4 := cell_on hB hc4
  replace hv := hv.trans (hB.mono hv.size)
  clear hB hw1
  have hS : ∀ w', Below w1.heap.size w1 w' → ((w'.cell? ⟨w.heap.size, 0, none⟩ = some (.int .u64 seed) ∧ w'.cell? ⟨w.heap.size, 2, none⟩ = some (.slice (some ad) cks.length ckc) ∧ w'.cell? ⟨(ad.add (i * 9)).block, (ad.add (i * 9)).off + 4, none⟩ = some (.int .i64 wh)) ∧ Below w1.heap.size w1 w') := fun w' hB => ⟨⟨cell_on hB x0, cell_on hB x2, cell_on hB hc4⟩, hB⟩
  go_region_held3 (fun w' => (w'.cell? ⟨w.heap.size, 0, none⟩ = some (.int .u64 seed) ∧ w'.cell? ⟨w.heap.size, 2, none⟩ = some (.slice (some ad) cks.length ckc) ∧ w'.cell? ⟨(ad.add (i * 9)).block, (ad.add (i * 9)).off + 4, none⟩ = some (.int .i64 wh)) ∧ Below w1.heap.size w1 w') (first | exact hS _ (Below.refl _ _).drew | assumption | (have hh := ‹(_ ∧ _ ∧ _) ∧ Below w1.heap.size w1 _›; exact hS _ (hh.2.trans (hB.mono hh.2.size))))
    (first | (go_at_call 40; with_reducible refine (c40 _).mono ?_; rintro e w' ⟨rfl, hB⟩))
  rename_i hHeld
  rename World => w2
  have hB := hHeld.2
  clear hHeld hS c40 hc4
  replace x0 := cell_on hB x0
  replace x1 := cell_on hB x1
  replace x2 := cell_on hB x2
  replace hv := hv.trans (hB.mono hv.size)
  clear hB
  go_wp2_with fail
  refine (c69 _ hv).mono ?_
  rintro en w3 ⟨rfl, hB⟩
  replace x0 := cell_on hB x0
  replace x1 := cell_on hB x1
  replace x2 := cell_on hB x2
  replace hv := hv.trans (hB.mono hv.size)
  clear hB c69
  go_wp2
  go_ret
  exact ⟨rfl, hv⟩
set_option maxHeartbeats 4000000 in
set_option maxRecDepth 100000 in
theorem rPhase_calls (seed : Int) (Ah : Option Addr) (chc : Nat) (Ak : Option Addr) (ckc : Nat) (chs : List T3) (cks : List Ck) (k s : Int) (w : World) (hW : WAt 90 w Ah Ak chs cks) :
    Calls Tryd.prog 28 #[woV seed Ah chs.length chc Ak cks.length ckc, .int .i64 k, .int .i64 s] w fun e w' => e = .returned (.tuple #[.int .i64 (phaseR seed chs cks k s).1, .int .i64 (phaseR seed chs cks k s).2]) ∧ Below w.heap.size w w' := by
  have hv := Below.refl w.heap.size w
  have c59 := fun W (hB : Below w.heap.size w W) => clocked_calls seed Ah chc Ak ckc chs cks k s W (hW.below hB)
  unfold phaseR
  by_cases h0 : errS chs cks k s = 0
  rotate_left
  · rw [if_neg h0]
    generalize errS chs cks k s = E at *
    have d1 : (E == 0) = false := beq_eq_false_iff_ne.2 h0
    clear hW
    go_enter Tryd.func28, Tryd.ntmps28
    go_wp2_with fail
    obtain ⟨w1, hw1⟩ : ∃ w1, w.alloc (.cells #[.int .u64 seed, .slice Ah chs.length chc, .slice Ak cks.length ckc] 26) = w1 := ⟨_, rfl⟩
    try rw [hw1]
    have hB : Below w.heap.size w w1 := by rw [← hw1]; exact (Below.refl _ w).alloc (by first | exact Nat.le_refl _ | (simp; done) | (simp; omega)) _
    have kx : w1.heap[w.heap.size]? = some (.cells #[.int .u64 seed, .slice Ah chs.length chc, .slice Ak cks.length ckc] 26 (0, 0)) := by rw [← hw1]; exact al_new _ _ _ (by first | rfl | (simp; done) | (simp; omega))
    have x0 : w1.cell? ⟨w.heap.size, 0, none⟩ = some (.int .u64 seed) := blk_cell kx 0
    have x1 : w1.cell? ⟨w.heap.size, 1, none⟩ = some (.slice Ah chs.length chc) := blk_cell kx 1
    have x2 : w1.cell? ⟨w.heap.size, 2, none⟩ = some (.slice Ak cks.length ckc) := blk_cell kx 2
    clear kx
    replace hv := hv.trans (hB.mono hv.size)
    clear hB hw1
    refine (c59 _ hv).mono ?_
    rintro en w2 ⟨rfl, hB⟩
    replace x0 := cell_on hB x0
    replace x1 := cell_on hB x1
    replace x2 := cell_on hB x2
    replace hv := hv.trans (hB.mono hv.size)
    clear hB c59
    go_wp2
    go_ret2
    exact ⟨rfl, hv⟩
  rw [if_pos h0]
  have hz := errS_zero h0
  have hk := errK_zero hz.1
  obtain ⟨i, rfl⟩ : ∃ i : Nat, k = i := ⟨k.toNat, by omega⟩
  have hi : i < cks.length := by omega
  have c69 := fun W (hB : Below w.heap.size w W) => rphase_calls seed Ah chc Ak ckc chs cks i s W (hW.below hB) hk.1 hi hz.2
  rw [h0] at c59
  clear h0 hz hk hW
  go_enter Tryd.func28, Tryd.ntmps28
  go_wp2_with fail
  obtain ⟨w1, hw1⟩ : ∃ w1, w.alloc (.cells #[.int .u64 seed, .slice Ah chs.length chc, .slice Ak cks.length ckc] 26) = w1 := ⟨_, rfl⟩
  try rw [hw1]
  have hB : Below w.heap.size w w1 := by rw [← hw1]; exact (Below.refl _ w).alloc (by first | exact Nat.le_refl _ | (simp; done) | (simp; omega)) _
  have kx : w1.heap[w.heap.size]? = some (.cells #[.int .u64 seed, .slice Ah chs.length chc, .slice Ak cks.length ckc] 26 (0, 0)) := by rw [← hw1]; exact al_new _ _ _ (by first | rfl | (simp; done) | (simp; omega))
  have x0 : w1.cell? ⟨w.heap.size, 0, none⟩ = some (.int .u64 seed) := blk_cell kx 0
  have x1 : w1.cell? ⟨w.heap.size, 1, none⟩ = some (.slice Ah chs.length chc) := blk_cell kx 1
  have x2 : w1.cell? ⟨w.heap.size, 2, none⟩ = some (.slice Ak cks.length ckc) := blk_cell kx 2
  clear kx
  replace hv := hv.trans (hB.mono hv.size)
  clear hB hw1
  refine (c59 _ hv).mono ?_
  rintro en w2 ⟨rfl, hB⟩
  replace x0 := cell_on hB x0
  replace x1 := cell_on hB x1
  replace x2 := cell_on hB x2
  replace hv := hv.trans (hB.mono hv.size)
  clear hB c59
  go_wp2_with fail
  refine (c69 _ hv).mono ?_
  rintro en w3 ⟨rfl, hB⟩
  replace x0 := cell_on hB x0
  replace x1 := cell_on hB x1
  replace x2 := cell_on hB x2
  replace hv := hv.trans (hB.mono hv.size)
  clear hB c69
  go_wp2
  go_ret2
  exact ⟨rfl, hv⟩
set_option maxHeartbeats 4000000 in
set_option maxRecDepth 100000 in
theorem rShown_calls (seed : Int) (Ah : Option Addr) (chc : Nat) (Ak : Option Addr) (ckc : Nat) (chs : List T3) (cks : List Ck) (k s : Int) (w : World) (hW : WAt 90 w Ah Ak chs cks) :
    Calls Tryd.prog 29 #[woV seed Ah chs.length chc Ak cks.length ckc, .int .i64 k, .int .i64 s] w fun e w' => e = .returned (.tuple #[.int .i64 (shownR seed chs cks k s).1, .int .i64 (shownR seed chs cks k s).2]) ∧ Below w.heap.size w w' := by
  have hv := Below.refl w.heap.size w
  have c59 := fun W (hB : Below w.heap.size w W) => clocked_calls seed Ah chc Ak ckc chs cks k s W (hW.below hB)
  unfold shownR
  by_cases h0 : errS chs cks k s = 0
  rotate_left
  · rw [errN_eq h0, if_neg h0]
    generalize errS chs cks k s = E at *
    have d1 : (E == 0) = false := beq_eq_false_iff_ne.2 h0
    clear hW
    go_enter Tryd.func29, Tryd.ntmps29
    go_wp2_with fail
    obtain ⟨w1, hw1⟩ : ∃ w1, w.alloc (.cells #[.int .u64 seed, .slice Ah chs.length chc, .slice Ak cks.length ckc] 26) = w1 := ⟨_, rfl⟩
    try rw [hw1]
    have hB : Below w.heap.size w w1 := by rw [← hw1]; exact (Below.refl _ w).alloc (by first | exact Nat.le_refl _ | (simp; done) | (simp; omega)) _
    have kx : w1.heap[w.heap.size]? = some (.cells #[.int .u64 seed, .slice Ah chs.length chc, .slice Ak cks.length ckc] 26 (0, 0)) := by rw [← hw1]; exact al_new _ _ _ (by first | rfl | (simp; done) | (simp; omega))
    have x0 : w1.cell? ⟨w.heap.size, 0, none⟩ = some (.int .u64 seed) := blk_cell kx 0
    have x1 : w1.cell? ⟨w.heap.size, 1, none⟩ = some (.slice Ah chs.length chc) := blk_cell kx 1
    have x2 : w1.cell? ⟨w.heap.size, 2, none⟩ = some (.slice Ak cks.length ckc) := blk_cell kx 2
    clear kx
    replace hv := hv.trans (hB.mono hv.size)
    clear hB hw1
    refine (c59 _ hv).mono ?_
    rintro en w2 ⟨rfl, hB⟩
    replace x0 := cell_on hB x0
    replace x1 := cell_on hB x1
    replace x2 := cell_on hB x2
    replace hv := hv.trans (hB.mono hv.size)
    clear hB c59
    go_wp2
    go_ret2
    exact ⟨rfl, hv⟩
  have hz := errS_zero h0
  have hk := errK_zero hz.1
  obtain ⟨i, rfl⟩ : ∃ i : Nat, k = i := ⟨k.toNat, by omega⟩
  have hi : i < cks.length := by omega
  have c70 := fun W (hB : Below w.heap.size w W) => rshown_calls seed Ah chc Ak ckc chs cks i s W (hW.below hB) hk.1 hi hz.2
  have hN : errN chs cks (i : Int) s = if runsF cks[i].es s then 0 else 22 := by unfold errN; rw [if_pos h0, ckAt_of hi]
  rw [hN]
  rw [h0] at c59
  have hlk : cks.length ≤ 9223372036854775807 := hW.k.2.1
  have HC := Aside0.mk hW.k
  have hi2 : (i : Int) < (cks.length : Int) := by omega
  clear h0 hz hk hW hN
  obtain ⟨x, hx⟩ : ∃ x, cks[i] = x := ⟨_, rfl⟩
  rw [hx]
  have HX := Aside0.mk hx
  clear hx
  cases hr : runsF x.es s
  · skip
    go_enter Tryd.func29, Tryd.ntmps29
    go_wp2_with fail
    obtain ⟨w1, hw1⟩ : ∃ w1, w.alloc (.cells #[.int .u64 seed, .slice Ah chs.length chc, .slice Ak cks.length ckc] 26) = w1 := ⟨_, rfl⟩
    try rw [hw1]
    have hB : Below w.heap.size w w1 := by rw [← hw1]; exact (Below.refl _ w).alloc (by first | exact Nat.le_refl _ | (simp; done) | (simp; omega)) _
    have kx : w1.heap[w.heap.size]? = some (.cells #[.int .u64 seed, .slice Ah chs.length chc, .slice Ak cks.length ckc] 26 (0, 0)) := by rw [← hw1]; exact al_new _ _ _ (by first | rfl | (simp; done) | (simp; omega))
    have x0 : w1.cell? ⟨w.heap.size, 0, none⟩ = some (.int .u64 seed) := blk_cell kx 0
    have x1 : w1.cell? ⟨w.heap.size, 1, none⟩ = some (.slice Ah chs.length chc) := blk_cell kx 1
    have x2 : w1.cell? ⟨w.heap.size, 2, none⟩ = some (.slice Ak cks.length ckc) := blk_cell kx 2
    clear kx
    replace hv := hv.trans (hB.mono hv.size)
    clear hB hw1
    refine (c59 _ hv).mono ?_
    rintro en w2 ⟨rfl, hB⟩
    replace x0 := cell_on hB x0
    replace x1 := cell_on hB x1
    replace x2 := cell_on hB x2
    replace hv := hv.trans (hB.mono hv.size)
    clear hB c59
    obtain ⟨ad, Ae, ce, rfl, hc0, hc1, hc2, hc3, hc4, hc5, hc6, hc7, hc8, hle, hCe⟩ := C_ck (Kd.C_below HC.out hv) i hi hi
    have c68 := running_calls cks[i] Ae ce s _ hCe
    rw [HX.out] at hc0 hc1 hc2 hc3 hc4 hc5 hc6 hc7 hc8 c68
    rw [hr] at c68
    clear hle hCe hr
    go_wp2_with fail
    refine c68.mono ?_
    rintro en w3 ⟨rfl, hB⟩
    replace x0 := cell_on hB x0
    replace x1 := cell_on hB x1
    replace x2 := cell_on hB x2
    replace hv := hv.trans (hB.mono hv.size)
    clear hB c68 hc0 hc1 hc2 hc3 hc4 hc5 hc6 hc7 hc8
    clear c70
    go_wp2
    go_ret2
    exact ⟨rfl, hv⟩
  · skip
    go_enter Tryd.func29, Tryd.ntmps29
    go_wp2_with fail
    obtain ⟨w1, hw1⟩ : ∃ w1, w.alloc (.cells #[.int .u64 seed, .slice Ah chs.length chc, .slice Ak cks.length ckc] 26) = w1 := ⟨_, rfl⟩
    try rw [hw1]
    have hB : Below w.heap.size w w1 := by rw [← hw1]; exact (Below.refl _ w).alloc (by first | exact Nat.le_refl _ | (simp; done) | (simp; omega)) _
    have kx : w1.heap[w.heap.size]? = some (.cells #[.int .u64 seed, .slice Ah chs.length chc, .slice Ak cks.length ckc] 26 (0, 0)) := by rw [← hw1]; exact al_new _ _ _ (by first | rfl | (simp; done) | (simp; omega))
    have x0 : w1.cell? ⟨w.heap.size, 0, none⟩ = some (.int .u64 seed) := blk_cell kx 0
    have x1 : w1.cell? ⟨w.heap.size, 1, none⟩ = some (.slice Ah chs.length chc) := blk_cell kx 1
    have x2 : w1.cell? ⟨w.heap.size, 2, none⟩ = some (.slice Ak cks.length ckc) := blk_cell kx 2
    clear kx
    replace hv := hv.trans (hB.mono hv.size)
    clear hB hw1
    refine (c59 _ hv).mono ?_
    rintro en w2 ⟨rfl, hB⟩
    replace x0 := cell_on hB x0
    replace x1 := cell_on hB x1
    replace x2 := cell_on hB x2
    replace hv := hv.trans (hB.mono hv.size)
    clear hB c59
    obtain ⟨ad, Ae, ce, rfl, hc0, hc1, hc2, hc3, hc4, hc5, hc6, hc7, hc8, hle, hCe⟩ := C_ck (Kd.C_below HC.out hv) i hi hi
    have c68 := running_calls cks[i] Ae ce s _ hCe
    rw [HX.out] at hc0 hc1 hc2 hc3 hc4 hc5 hc6 hc7 hc8 c68
    rw [hr] at c68
    clear hle hCe hr
    go_wp2_with fail
    refine c68.mono ?_
    rintro en w3 ⟨rfl, hB⟩
    replace x0 := cell_on hB x0
    replace x1 := cell_on hB x1
    replace x2 := cell_on hB x2
    replace hv := hv.trans (hB.mono hv.size)
    clear hB c68 hc0 hc1 hc2 hc3 hc4 hc5 hc6 hc7 hc8
    go_wp2_with fail
    refine (c70 _ hv).mono ?_
    rintro en w4 ⟨rfl, hB⟩
    replace x0 := cell_on hB x0
    replace x1 := cell_on hB x1
    replace x2 := cell_on hB x2
    replace hv := hv.trans (hB.mono hv.size)
    clear hB c70
    go_wp2
    go_ret2
    exact ⟨rfl, hv⟩
set_option maxHeartbeats 4000000 in
set_option maxRecDepth 100000 in
theorem rRead_calls (seed : Int) (Ah : Option Addr) (chc : Nat) (Ak : Option Addr) (ckc : Nat) (chs : List T3) (cks : List Ck) (k s : Int) (w : World) (hW : WAt 90 w Ah Ak chs cks) :
    Calls Tryd.prog 32 #[woV seed Ah chs.length chc Ak cks.length ckc, .int .i64 k, .int .i64 s] w fun e w' => e = .returned (.tuple #[.agg #[.int .i64 (readR seed chs cks k s).1.1, .int .i64 (readR seed chs cks k s).1.2], .int .i64 (readR seed chs cks k s).2]) ∧ Below w.heap.size w w' := by
  have hv := Below.refl w.heap.size w
  have c0 := fun W (hB : Below w.heap.size w W) => rShown_calls seed Ah chc Ak ckc chs cks k s W (hW.below hB)
  unfold shownR at c0
  unfold readR
  clear hW
  by_cases hE : errN chs cks k s = 0
  rotate_left
  · rw [if_neg hE]
    rw [if_neg hE] at c0
    generalize errN chs cks k s = E at *
    have d1 : (E == 0) = false := beq_eq_false_iff_ne.2 hE
    go_enter Tryd.func32, Tryd.ntmps32
    go_wp2_with fail
    obtain ⟨w1, hw1⟩ : ∃ w1, (w.alloc (.cells #[.int .u64 seed, .slice Ah chs.length chc, .slice Ak cks.length ckc] 26)).alloc (.cells #[.int .i64 0, .int .i64 0] 69) = w1 := ⟨_, rfl⟩
    try rw [hw1]
    have hB : Below w.heap.size w w1 := by rw [← hw1]; exact ((Below.refl _ w).alloc (by first | exact Nat.le_refl _ | (simp; done) | (simp; omega)) _).alloc (by first | exact Nat.le_refl _ | (simp; done) | (simp; omega)) _
    have kx : w1.heap[w.heap.size]? = some (.cells #[.int .u64 seed, .slice Ah chs.length chc, .slice Ak cks.length ckc] 26 (0, 0)) := by rw [← hw1]; exact al_old (al_new _ _ _ (by first | rfl | (simp; done) | (simp; omega)))
    have x0 : w1.cell? ⟨w.heap.size, 0, none⟩ = some (.int .u64 seed) := blk_cell kx 0
    have x1 : w1.cell? ⟨w.heap.size, 1, none⟩ = some (.slice Ah chs.length chc) := blk_cell kx 1
    have x2 : w1.cell? ⟨w.heap.size, 2, none⟩ = some (.slice Ak cks.length ckc) := blk_cell kx 2
    have kr : w1.heap[w.heap.size + 1]? = some (.cells #[.int .i64 0, .int .i64 0] 69 (0, 0)) := by rw [← hw1]; exact al_new _ _ _ (by first | rfl | (simp; done) | (simp; omega))
    have r0 : w1.cell? ⟨w.heap.size + 1, 0, none⟩ = some (.int .i64 0) := blk_cell kr 0
    have r1 : w1.cell? ⟨w.heap.size + 1, 1, none⟩ = some (.int .i64 0) := blk_cell kr 1
    replace hv := hv.trans (hB.mono hv.size)
    clear hB hw1
    clear kx
    refine (c0 _ hv).mono ?_
    rintro en w2 ⟨rfl, hB⟩
    replace kr := blk_on hB kr
    replace x0 := cell_on hB x0
    replace x1 := cell_on hB x1
    replace x2 := cell_on hB x2
    replace r0 := cell_on hB r0
    replace r1 := cell_on hB r1
    replace hv := hv.trans (hB.mono hv.size)
    have z0 := blk_frozen kr 0
    have z1 := blk_frozen kr 1
    clear hB c0
    go_wp2_with fail
    exact bodyPost_ret (results_row_tmp rfl _ _ (w.heap.size + 1) 69 _ (0, 0) _ rfl (blk_put (blk_put kr 0 _ rfl) 1 _ rfl) Tryd.underlying69 rfl info69) rfl ⟨rfl, (hv.setCell (by simp) _).setCell (by simp) _⟩
  rw [if_pos hE]
  rw [if_pos hE] at c0
  have hr := reads_of (seed := seed) hE
  have hb := hr.b
  have hsb := hr.sb
  have c2 := fun W => At_calls s (shownF seed chs cks k s) W (by omega) (by omega)
  generalize shownF seed chs cks k s = V at *
  clear hE hr hb hsb
  obtain ⟨M, hM⟩ : ∃ m, momF s V = m := ⟨_, rfl⟩
  rw [hM] at c2 ⊢
  obtain ⟨M1, M2⟩ := M
  simp only at c0 c2 ⊢
  go_enter Tryd.func32, Tryd.ntmps32
  go_wp2_with fail
  obtain ⟨w1, hw1⟩ : ∃ w1, (w.alloc (.cells #[.int .u64 seed, .slice Ah chs.length chc, .slice Ak cks.length ckc] 26)).alloc (.cells #[.int .i64 0, .int .i64 0] 69) = w1 := ⟨_, rfl⟩
  try rw [hw1]
  have hB : Below w.heap.size w w1 := by rw [← hw1]; exact ((Below.refl _ w).alloc (by first | exact Nat.le_refl _ | (simp; done) | (simp; omega)) _).alloc (by first | exact Nat.le_refl _ | (simp; done) | (simp; omega)) _
  have kx : w1.heap[w.heap.size]? = some (.cells #[.int .u64 seed, .slice Ah chs.length chc, .slice Ak cks.length ckc] 26 (0, 0)) := by rw [← hw1]; exact al_old (al_new _ _ _ (by first | rfl | (simp; done) | (simp; omega)))
  have x0 : w1.cell? ⟨w.heap.size, 0, none⟩ = some (.int .u64 seed) := blk_cell kx 0
  have x1 : w1.cell? ⟨w.heap.size, 1, none⟩ = some (.slice Ah chs.length chc) := blk_cell kx 1
  have x2 : w1.cell? ⟨w.heap.size, 2, none⟩ = some (.slice Ak cks.length ckc) := blk_cell kx 2
  have kr : w1.heap[w.heap.size + 1]? = some (.cells #[.int .i64 0, .int .i64 0] 69 (0, 0)) := by rw [← hw1]; exact al_new _ _ _ (by first | rfl | (simp; done) | (simp; omega))
  have r0 : w1.cell? ⟨w.heap.size + 1, 0, none⟩ = some (.int .i64 0) := blk_cell kr 0
  have r1 : w1.cell? ⟨w.heap.size + 1, 1, none⟩ = some (.int .i64 0) := blk_cell kr 1
  replace hv := hv.trans (hB.mono hv.size)
  clear hB hw1
  clear kx
  refine (c0 _ hv).mono ?_
  rintro en w2 ⟨rfl, hB⟩
  replace kr := blk_on hB kr
  replace x0 := cell_on hB x0
  replace x1 := cell_on hB x1
  replace x2 := cell_on hB x2
  replace r0 := cell_on hB r0
  replace r1 := cell_on hB r1
  replace hv := hv.trans (hB.mono hv.size)
  have z0 := blk_frozen kr 0
  have z1 := blk_frozen kr 1
  clear hB c0
  go_wp2_with fail
  refine (c2 _).mono ?_
  rintro en w3 ⟨rfl, hB⟩
  replace kr := blk_on hB kr
  replace x0 := cell_on hB x0
  replace x1 := cell_on hB x1
  replace x2 := cell_on hB x2
  replace r0 := cell_on hB r0
  replace r1 := cell_on hB r1
  replace hv := hv.trans (hB.mono hv.size)
  replace z0 := blk_frozen kr 0
  replace z1 := blk_frozen kr 1
  clear hB c2
  go_wp2_with fail
  exact bodyPost_ret (results_row_tmp rfl _ _ (w.heap.size + 1) 69 _ (0, 0) _ rfl (blk_put (blk_put kr 0 _ rfl) 1 _ rfl) Tryd.underlying69 rfl info69) rfl ⟨rfl, (hv.setCell (by simp) _).setCell (by simp) _⟩
end Go.Proofs.YtlfnnalepdjagaaDoor.C
end

section
/- The contract of the reference's Reach. -/
namespace Go.Proofs.YtlfnnalepdjagaaDoor.C
open Go.RowKit Go.Shelf Go.Maps Go.Proofs.YtlfnnalepdjagaaDoorW.PrintWords Go.Proofs.YtlfnnalepdjagaaDoorW.PrintLast Go.Proofs.YtlfnnalepdjagaaDoorW.PrintMore
set_option linter.unusedVariables false
set_option linter.unusedSimpArgs false
set_option maxHeartbeats 4000000 in
set_option maxRecDepth 100000 in
theorem rReach_calls (seed : Int) (Ah : Option Addr) (chc : Nat) (Ak : Option Addr) (ckc : Nat) (chs : List T3) (cks : List Ck) (k s : Int) (w : World) (hW : WAt 90 w Ah Ak chs cks) :
    Calls Tryd.prog 31 #[woV seed Ah chs.length chc Ak cks.length ckc, .int .i64 k, .int .i64 s] w fun e w' => e = .returned (.tuple #[.agg #[.int .i64 (reachR chs cks k s).1.1, .int .i64 (reachR chs cks k s).1.2], .int .i64 (reachR chs cks k s).2]) ∧ Below w.heap.size w w' := by
  have hv := Below.refl w.heap.size w
  have c59 := fun W (hB : Below w.heap.size w W) => clocked_calls seed Ah chc Ak ckc chs cks k s W (hW.below hB)
  unfold reachR
  by_cases hE : errS chs cks k s = 0
  rotate_left
  · rw [if_neg hE]
    clear hW
    generalize errS chs cks k s = E at *
    have d1 : (E == 0) = false := beq_eq_false_iff_ne.2 hE
    go_enter Tryd.func31, Tryd.ntmps31
    go_wp2_with fail
    obtain ⟨w1, hw1⟩ : ∃ w1, (w.alloc (.cells #[.int .u64 seed, .slice Ah chs.length chc, .slice Ak cks.length ckc] 26)).alloc (.cells #[.int .i64 0, .int .i64 0] 65) = w1 := ⟨_, rfl⟩
    try rw [hw1]
    have hB : Below w.heap.size w w1 := by rw [← hw1]; exact ((Below.refl _ w).alloc (by first | exact Nat.le_refl _ | (simp; done) | (simp; omega)) _).alloc (by first | exact Nat.le_refl _ | (simp; done) | (simp; omega)) _
    have kx : w1.heap[w.heap.size]? = some (.cells #[.int .u64 seed, .slice Ah chs.length chc, .slice Ak cks.length ckc] 26 (0, 0)) := by rw [← hw1]; exact al_old (al_new _ _ _ (by first | rfl | (simp; done) | (simp; omega)))
    have x0 : w1.cell? ⟨w.heap.size, 0, none⟩ = some (.int .u64 seed) := blk_cell kx 0
    have x1 : w1.cell? ⟨w.heap.size, 1, none⟩ = some (.slice Ah chs.length chc) := blk_cell kx 1
    have x2 : w1.cell? ⟨w.heap.size, 2, none⟩ = some (.slice Ak cks.length ckc) := blk_cell kx 2
    have kr : w1.heap[w.heap.size + 1]? = some (.cells #[.int .i64 0, .int .i64 0] 65 (0, 0)) := by rw [← hw1]; exact al_new _ _ _ (by first | rfl | (simp; done) | (simp; omega))
    have r0 : w1.cell? ⟨w.heap.size + 1, 0, none⟩ = some (.int .i64 0) := blk_cell kr 0
    have r1 : w1.cell? ⟨w.heap.size + 1, 1, none⟩ = some (.int .i64 0) := blk_cell kr 1
    replace hv := hv.trans (hB.mono hv.size)
    clear hB hw1
    refine (c59 _ hv).mono ?_
    rintro en w2 ⟨rfl, hB⟩
    replace kx := blk_on hB kx
    replace kr := blk_on hB kr
    replace x0 := cell_on hB x0
    replace x1 := cell_on hB x1
    replace x2 := cell_on hB x2
    replace r0 := cell_on hB r0
    replace r1 := cell_on hB r1
    replace hv := hv.trans (hB.mono hv.size)
    have z0 := blk_frozen kr 0
    have z1 := blk_frozen kr 1
    clear hB c59
    go_wp2_with fail
    exact bodyPost_ret (results_row_tmp rfl _ _ (w.heap.size + 1) 65 _ (0, 0) _ rfl (blk_put (blk_put kr 0 _ rfl) 1 _ rfl) Tryd.underlying65 rfl info65) rfl ⟨rfl, (hv.setCell (by simp) _).setCell (by simp) _⟩
  rw [if_pos hE]
  have hz := errS_zero hE
  have hk := errK_zero hz.1
  obtain ⟨i, rfl⟩ : ∃ i : Nat, k = i := ⟨k.toNat, by omega⟩
  have hi : i < cks.length := by omega
  obtain ⟨hO, hEv, q, hq, hxq, hc⟩ := hk.1.at hi
  have c72 := fun W (hB : Below w.heap.size w W) => rstill_calls seed Ah chc Ak ckc chs cks i hi q hq s W (wat86 (hW.below hB)) hxq chs.length hO hEv hc hz.2
  have hst := still_b hO hEv hc hz.2
  have hwk : 0 ≤ cks[i].wk ∧ cks[i].wk ≤ 1000000000 := ⟨hO.wk.1, (rt_b hO).2.2.2⟩
  have hwh : 0 ≤ cks[i].wh ∧ cks[i].wh ≤ 1000000000000 := ⟨hO.wh.1, (rt_b hO).2.2.1⟩
  have hs := hz.2
  rw [hE] at c59
  unfold stillK farF
  rw [ckAt_of hi]
  rw [room_of hq hxq]
  obtain ⟨S, hS⟩ : ∃ v, stillF cks[i] chs[q] s = v := ⟨_, rfl⟩
  rw [hS] at c72 hst ⊢
  clear hS hO hEv hc hxq hq hk hz hE
  have HC := Aside0.mk hW.k
  have hlk : cks.length ≤ 9223372036854775807 := hW.k.2.1
  have hi2 : (i : Int) < (cks.length : Int) := by omega
  clear hW
  obtain ⟨N, hN⟩ : ∃ n : Nat, (n : Int) = s / 100 := ⟨(s / 100).toNat, by omega⟩
  rw [← hN]
  have hN3 : N ≤ 10000 := by omega
  obtain ⟨wk, hk9⟩ : ∃ d, cks[i].wk = d := ⟨_, rfl⟩
  obtain ⟨wh, hh9⟩ : ∃ d, cks[i].wh = d := ⟨_, rfl⟩
  rw [hk9] at hwk ⊢
  rw [hh9] at hwh ⊢
  have HKH := Aside0.mk (show cks[i].wk = wk ∧ cks[i].wh = wh from ⟨hk9, hh9⟩)
  clear hk9 hh9
  have HM := Aside0.mk (fun (j : Nat) (hj : j ≤ N) => show 0 ≤ wk * (j : Int) ∧ wk * (j : Int) ≤ 10000000000000 from ⟨Int.mul_nonneg hwk.1 (by omega), by have : wk * (j : Int) ≤ 1000000000 * 10000 := Int.mul_le_mul hwk.2 (by omega) (by omega) (by omega); omega⟩)
  have HN := Aside0.mk hN
  clear hN
  go_enter Tryd.func31, Tryd.ntmps31
  go_wp2_with fail
  obtain ⟨w1, hw1⟩ : ∃ w1, (w.alloc (.cells #[.int .u64 seed, .slice Ah chs.length chc, .slice Ak cks.length ckc] 26)).alloc (.cells #[.int .i64 0, .int .i64 0] 65) = w1 := ⟨_, rfl⟩
  try rw [hw1]
  have hB : Below w.heap.size w w1 := by rw [← hw1]; exact ((Below.refl _ w).alloc (by first | exact Nat.le_refl _ | (simp; done) | (simp; omega)) _).alloc (by first | exact Nat.le_refl _ | (simp; done) | (simp; omega)) _
  have kx : w1.heap[w.heap.size]? = some (.cells #[.int .u64 seed, .slice Ah chs.length chc, .slice Ak cks.length ckc] 26 (0, 0)) := by rw [← hw1]; exact al_old (al_new _ _ _ (by first | rfl | (simp; done) | (simp; omega)))
  have x0 : w1.cell? ⟨w.heap.size, 0, none⟩ = some (.int .u64 seed) := blk_cell kx 0
  have x1 : w1.cell? ⟨w.heap.size, 1, none⟩ = some (.slice Ah chs.length chc) := blk_cell kx 1
  have x2 : w1.cell? ⟨w.heap.size, 2, none⟩ = some (.slice Ak cks.length ckc) := blk_cell kx 2
  have kr : w1.heap[w.heap.size + 1]? = some (.cells #[.int .i64 0, .int .i64 0] 65 (0, 0)) := by rw [← hw1]; exact al_new _ _ _ (by first | rfl | (simp; done) | (simp; omega))
  have r0 : w1.cell? ⟨w.heap.size + 1, 0, none⟩ = some (.int .i64 0) := blk_cell kr 0
  have r1 : w1.cell? ⟨w.heap.size + 1, 1, none⟩ = some (.int .i64 0) := blk_cell kr 1
  replace hv := hv.trans (hB.mono hv.size)
  clear hB hw1
  refine (c59 _ hv).mono ?_
  rintro en w2 ⟨rfl, hB⟩
  replace kx := blk_on hB kx
  replace kr := blk_on hB kr
  replace x0 := cell_on hB x0
  replace x1 := cell_on hB x1
  replace x2 := cell_on hB x2
  replace r0 := cell_on hB r0
  replace r1 := cell_on hB r1
  replace hv := hv.trans (hB.mono hv.size)
  have z0 := blk_frozen kr 0
  have z1 := blk_frozen kr 1
  clear hB c59
  go_wp2_with fail
  refine (c72 _ hv).mono ?_
  rintro en w3 ⟨rfl, hB⟩
  replace kx := blk_on hB kx
  replace kr := blk_on hB kr
  replace x0 := cell_on hB x0
  replace x1 := cell_on hB x1
  replace x2 := cell_on hB x2
  replace r0 := cell_on hB r0
  replace r1 := cell_on hB r1
  replace hv := hv.trans (hB.mono hv.size)
  clear hB c72
  obtain ⟨ad, Ae, ce, rfl, hc0, hc1, hc2, hc3, hc4, hc5, hc6, hc7, hc8, hle, hCe⟩ := C_ck (Kd.C_below HC.out hv) i hi hi
  rw [HKH.out.2] at hc4
  rw [HKH.out.1] at hc5
  clear hc0 hc1 hc2 hc3 hc6 hc7 hc8 hle hCe z0 z1 r0 r1 HC
  have HV := Aside0.mk hv
  have HKR := Aside0.mk kr
  clear hv kr kx
  go_wp2
  go_loopw [11, 10] (fun v11 v10 wr => ∃ j : Nat, j ≤ N ∧ v11 = .int .i64 (100 * (j : Int) + 100) ∧ v10 = .int .i64 (wh + wk * j) ∧ wr = w3) (fun v _ _ => s.toNat + 100 - (intOf v).toNat)
  case atStart => exact ⟨0, Nat.zero_le _, by simp, by simp, rfl⟩
  case round =>
    obtain ⟨j, hj, rfl, rfl, rfl⟩ := hrel
    have hm := HM.out j hj
    by_cases hlt : j < N
    · have dlt : (100 : Int) * (j : Int) + 100 ≤ s := by have := HN.out; omega
      have dlt' : decide ((100 : Int) * (j : Int) + 100 ≤ s) = true := decide_eq_true dlt
      have hm2 := HM.out (j + 1) hlt
      have e1 : wk * ((j + 1 : Nat) : Int) = wk * (j : Int) + wk := by push_cast; rw [Int.mul_add, Int.mul_one]
      have HE1 := Aside0.mk e1
      rw [e1] at hm2
      clear e1
      have hme := Aside0.mk (show (s.toNat : Int) = s by omega)
      obtain ⟨M, hM⟩ : ∃ m, wk * (j : Int) = m := ⟨_, rfl⟩
      rw [hM] at hm hm2 ⊢
      have v1 : IntKind.i64.wrap (wh + M + wk) = wh + M + wk := C.wr _ (by omega) (by omega)
      have v2 : IntKind.i64.wrap (100 * (j : Int) + 100 + 100) = 100 * (j : Int) + 100 + 100 := C.wr _ (by omega) (by omega)
      have HMM := Aside0.mk hM
      clear hM hm hm2
      go_wp2
      go_roundw
      case rel => exact ⟨j + 1, hlt, by first | (congr 1; push_cast; omega) | (simp; omega), by rw [HE1.out, HMM.out, Int.add_assoc], by first | rfl | trivial⟩
      case measure => have := hme.out; simp [intOf]; omega
    · have dlt : ¬ (100 : Int) * (j : Int) + 100 ≤ s := by have := HN.out; omega
      have dlt' : decide ((100 : Int) * (j : Int) + 100 ≤ s) = false := decide_eq_false dlt
      obtain rfl : j = N := by omega
      obtain ⟨M, hM⟩ : ∃ m, wk * (j : Int) = m := ⟨_, rfl⟩
      rw [hM] at hm ⊢
      have v1 : IntKind.i64.wrap (S - (wh + M)) = S - (wh + M) := C.wr _ (by omega) (by omega)
      have v2 : IntKind.i64.wrap (S + (wh + M)) = S + (wh + M) := C.wr _ (by omega) (by omega)
      have kr := HKR.out
      have z0 := blk_frozen kr 0
      have z1 := blk_frozen kr 1
      have r0 : wr.cell? ⟨w.heap.size + 1, 0, none⟩ = some (.int .i64 0) := blk_cell kr 0
      have r1 : wr.cell? ⟨w.heap.size + 1, 1, none⟩ = some (.int .i64 0) := blk_cell kr 1
      have HMM := Aside0.mk hM
      clear hM
      go_wp2
      exact bodyPost_ret (results_row_tmp rfl _ _ (w.heap.size + 1) 65 _ (0, 0) _ rfl (blk_put (blk_put kr 0 _ rfl) 1 _ rfl) Tryd.underlying65 rfl info65) rfl ⟨by rw [HMM.out, Int.add_comm wh M]; rfl, (HV.out.setCell (by simp) _).setCell (by simp) _⟩
end Go.Proofs.YtlfnnalepdjagaaDoor.C
end

section
/- The contract of the reference's Growth. -/
namespace Go.Proofs.YtlfnnalepdjagaaDoor.C
open Go.RowKit Go.Shelf Go.Maps Go.Proofs.YtlfnnalepdjagaaDoorW.PrintWords Go.Proofs.YtlfnnalepdjagaaDoorW.PrintLast Go.Proofs.YtlfnnalepdjagaaDoorW.PrintMore
set_option linter.unusedVariables false
set_option linter.unusedSimpArgs false
set_option maxHeartbeats 4000000 in
set_option maxRecDepth 100000 in
theorem rGrowth_calls (seed : Int) (Ah : Option Addr) (chc : Nat) (Ak : Option Addr) (ckc : Nat) (chs : List T3) (cks : List Ck) (k a b : Int) (w : World) (hW : WAt 90 w Ah Ak chs cks) :
    Calls Tryd.prog 38 #[woV seed Ah chs.length chc Ak cks.length ckc, .int .i64 k, .int .i64 a, .int .i64 b] w fun e w' => e = .returned (.tuple #[.agg #[.int .i64 (growthR chs cks k a b).1.1, .int .i64 (growthR chs cks k a b).1.2], .int .i64 (growthR chs cks k a b).2]) ∧ Below w.heap.size w w' := by
  have hv := Below.refl w.heap.size w
  have c59 := fun W (hB : Below w.heap.size w W) => clocked_calls seed Ah chc Ak ckc chs cks k a W (hW.below hB)
  have d59 := fun W (hB : Below w.heap.size w W) => clocked_calls seed Ah chc Ak ckc chs cks k b W (hW.below hB)
  unfold growthR
  by_cases hE : errS chs cks k a = 0
  rotate_left
  · have hG : errG chs cks k a b = errS chs cks k a := by unfold errG; rw [if_neg hE]
    rw [hG, if_neg hE]
    clear hG hW d59
    generalize errS chs cks k a = E at *
    have d1 : (E == 0) = false := beq_eq_false_iff_ne.2 hE
    go_enter Tryd.func38, Tryd.ntmps38
    go_wp2_with fail
    obtain ⟨w1, hw1⟩ : ∃ w1, (w.alloc (.cells #[.int .u64 seed, .slice Ah chs.length chc, .slice Ak cks.length ckc] 26)).alloc (.cells #[.int .i64 0, .int .i64 0] 65) = w1 := ⟨_, rfl⟩
    try rw [hw1]
    have hB : Below w.heap.size w w1 := by rw [← hw1]; exact ((Below.refl _ w).alloc (by first | exact Nat.le_refl _ | (simp; done) | (simp; omega)) _).alloc (by first | exact Nat.le_refl _ | (simp; done) | (simp; omega)) _
    have kx : w1.heap[w.heap.size]? = some (.cells #[.int .u64 seed, .slice Ah chs.length chc, .slice Ak cks.length ckc] 26 (0, 0)) := by rw [← hw1]; exact al_old (al_new _ _ _ (by first | rfl | (simp; done) | (simp; omega)))
    have x0 : w1.cell? ⟨w.heap.size, 0, none⟩ = some (.int .u64 seed) := blk_cell kx 0
    have x1 : w1.cell? ⟨w.heap.size, 1, none⟩ = some (.slice Ah chs.length chc) := blk_cell kx 1
    have x2 : w1.cell? ⟨w.heap.size, 2, none⟩ = some (.slice Ak cks.length ckc) := blk_cell kx 2
    have kr : w1.heap[w.heap.size + 1]? = some (.cells #[.int .i64 0, .int .i64 0] 65 (0, 0)) := by rw [← hw1]; exact al_new _ _ _ (by first | rfl | (simp; done) | (simp; omega))
    have r0 : w1.cell? ⟨w.heap.size + 1, 0, none⟩ = some (.int .i64 0) := blk_cell kr 0
    have r1 : w1.cell? ⟨w.heap.size + 1, 1, none⟩ = some (.int .i64 0) := blk_cell kr 1
    replace hv := hv.trans (hB.mono hv.size)
    clear hB hw1
    refine (c59 _ hv).mono ?_
    rintro en w2 ⟨rfl, hB⟩
    replace kx := blk_on hB kx
    replace kr := blk_on hB kr
    replace x0 := cell_on hB x0
    replace x1 := cell_on hB x1
    replace x2 := cell_on hB x2
    replace r0 := cell_on hB r0
    replace r1 := cell_on hB r1
    replace hv := hv.trans (hB.mono hv.size)
    have z0 := blk_frozen kr 0
    have z1 := blk_frozen kr 1
    clear hB c59
    go_wp2_with fail
    exact bodyPost_ret (results_row_tmp rfl _ _ (w.heap.size + 1) 65 _ (0, 0) _ rfl (blk_put (blk_put kr 0 _ rfl) 1 _ rfl) Tryd.underlying65 rfl info65) rfl ⟨rfl, (hv.setCell (by simp) _).setCell (by simp) _⟩
  have hb9 : errS chs cks k b = timedF b := by have hz := errS_zero hE; unfold errS; rw [if_pos hz.1]
  rw [hb9] at d59
  by_cases hT : timedF b = 0
  rotate_left
  · have hG : errG chs cks k a b = timedF b := by unfold errG; rw [if_pos hE, if_neg hT]
    rw [hG, if_neg hT]
    rw [hE] at c59
    clear hG hW hb9 hE
    generalize timedF b = E at *
    have d1 : (E == 0) = false := beq_eq_false_iff_ne.2 hT
    go_enter Tryd.func38, Tryd.ntmps38
    go_wp2_with fail
    obtain ⟨w1, hw1⟩ : ∃ w1, (w.alloc (.cells #[.int .u64 seed, .slice Ah chs.length chc, .slice Ak cks.length ckc] 26)).alloc (.cells #[.int .i64 0, .int .i64 0] 65) = w1 := ⟨_, rfl⟩
    try rw [hw1]
    have hB : Below w.heap.size w w1 := by rw [← hw1]; exact ((Below.refl _ w).alloc (by first | exact Nat.le_refl _ | (simp; done) | (simp; omega)) _).alloc (by first | exact Nat.le_refl _ | (simp; done) | (simp; omega)) _
    have kx : w1.heap[w.heap.size]? = some (.cells #[.int .u64 seed, .slice Ah chs.length chc, .slice Ak cks.length ckc] 26 (0, 0)) := by rw [← hw1]; exact al_old (al_new _ _ _ (by first | rfl | (simp; done) | (simp; omega)))
    have x0 : w1.cell? ⟨w.heap.size, 0, none⟩ = some (.int .u64 seed) := blk_cell kx 0
    have x1 : w1.cell? ⟨w.heap.size, 1, none⟩ = some (.slice Ah chs.length chc) := blk_cell kx 1
    have x2 : w1.cell? ⟨w.heap.size, 2, none⟩ = some (.slice Ak cks.length ckc) := blk_cell kx 2
    have kr : w1.heap[w.heap.size + 1]? = some (.cells #[.int .i64 0, .int .i64 0] 65 (0, 0)) := by rw [← hw1]; exact al_new _ _ _ (by first | rfl | (simp; done) | (simp; omega))
    have r0 : w1.cell? ⟨w.heap.size + 1, 0, none⟩ = some (.int .i64 0) := blk_cell kr 0
    have r1 : w1.cell? ⟨w.heap.size + 1, 1, none⟩ = some (.int .i64 0) := blk_cell kr 1
    replace hv := hv.trans (hB.mono hv.size)
    clear hB hw1
    refine (c59 _ hv).mono ?_
    rintro en w2 ⟨rfl, hB⟩
    replace kx := blk_on hB kx
    replace kr := blk_on hB kr
    replace x0 := cell_on hB x0
    replace x1 := cell_on hB x1
    replace x2 := cell_on hB x2
    replace r0 := cell_on hB r0
    replace r1 := cell_on hB r1
    replace hv := hv.trans (hB.mono hv.size)
    have z0 := blk_frozen kr 0
    have z1 := blk_frozen kr 1
    clear hB c59
    go_wp2_with fail
    refine (d59 _ hv).mono ?_
    rintro en w3 ⟨rfl, hB⟩
    replace kx := blk_on hB kx
    replace kr := blk_on hB kr
    replace x0 := cell_on hB x0
    replace x1 := cell_on hB x1
    replace x2 := cell_on hB x2
    replace r0 := cell_on hB r0
    replace r1 := cell_on hB r1
    replace hv := hv.trans (hB.mono hv.size)
    have z0 := blk_frozen kr 0
    have z1 := blk_frozen kr 1
    clear hB d59
    go_wp2_with fail
    exact bodyPost_ret (results_row_tmp rfl _ _ (w.heap.size + 1) 65 _ (0, 0) _ rfl (blk_put (blk_put kr 0 _ rfl) 1 _ rfl) Tryd.underlying65 rfl info65) rfl ⟨rfl, (hv.setCell (by simp) _).setCell (by simp) _⟩
  rw [hT] at d59
  by_cases hab : b < a
  · have hG : errG chs cks k a b = 1 := by unfold errG; rw [if_pos hE, if_pos hT, if_pos hab]
    rw [hG, if_neg (by decide)]
    rw [hE] at c59
    have d3 : decide (a > b) = true := decide_eq_true hab
    have d3' : decide (b < a) = true := decide_eq_true hab
    clear hG hW hb9 hE hT
    go_enter Tryd.func38, Tryd.ntmps38
    go_wp2_with fail
    obtain ⟨w1, hw1⟩ : ∃ w1, (w.alloc (.cells #[.int .u64 seed, .slice Ah chs.length chc, .slice Ak cks.length ckc] 26)).alloc (.cells #[.int .i64 0, .int .i64 0] 65) = w1 := ⟨_, rfl⟩
    try rw [hw1]
    have hB : Below w.heap.size w w1 := by rw [← hw1]; exact ((Below.refl _ w).alloc (by first | exact Nat.le_refl _ | (simp; done) | (simp; omega)) _).alloc (by first | exact Nat.le_refl _ | (simp; done) | (simp; omega)) _
    have kx : w1.heap[w.heap.size]? = some (.cells #[.int .u64 seed, .slice Ah chs.length chc, .slice Ak cks.length ckc] 26 (0, 0)) := by rw [← hw1]; exact al_old (al_new _ _ _ (by first | rfl | (simp; done) | (simp; omega)))
    have x0 : w1.cell? ⟨w.heap.size, 0, none⟩ = some (.int .u64 seed) := blk_cell kx 0
    have x1 : w1.cell? ⟨w.heap.size, 1, none⟩ = some (.slice Ah chs.length chc) := blk_cell kx 1
    have x2 : w1.cell? ⟨w.heap.size, 2, none⟩ = some (.slice Ak cks.length ckc) := blk_cell kx 2
    have kr : w1.heap[w.heap.size + 1]? = some (.cells #[.int .i64 0, .int .i64 0] 65 (0, 0)) := by rw [← hw1]; exact al_new _ _ _ (by first | rfl | (simp; done) | (simp; omega))
    have r0 : w1.cell? ⟨w.heap.size + 1, 0, none⟩ = some (.int .i64 0) := blk_cell kr 0
    have r1 : w1.cell? ⟨w.heap.size + 1, 1, none⟩ = some (.int .i64 0) := blk_cell kr 1
    replace hv := hv.trans (hB.mono hv.size)
    clear hB hw1
    refine (c59 _ hv).mono ?_
    rintro en w2 ⟨rfl, hB⟩
    replace kx := blk_on hB kx
    replace kr := blk_on hB kr
    replace x0 := cell_on hB x0
    replace x1 := cell_on hB x1
    replace x2 := cell_on hB x2
    replace r0 := cell_on hB r0
    replace r1 := cell_on hB r1
    replace hv := hv.trans (hB.mono hv.size)
    have z0 := blk_frozen kr 0
    have z1 := blk_frozen kr 1
    clear hB c59
    go_wp2_with fail
    refine (d59 _ hv).mono ?_
    rintro en w3 ⟨rfl, hB⟩
    replace kx := blk_on hB kx
    replace kr := blk_on hB kr
    replace x0 := cell_on hB x0
    replace x1 := cell_on hB x1
    replace x2 := cell_on hB x2
    replace r0 := cell_on hB r0
    replace r1 := cell_on hB r1
    replace hv := hv.trans (hB.mono hv.size)
    have z0 := blk_frozen kr 0
    have z1 := blk_frozen kr 1
    clear hB d59
    go_wp2_with fail
    exact bodyPost_ret (results_row_tmp rfl _ _ (w.heap.size + 1) 65 _ (0, 0) _ rfl (blk_put (blk_put kr 0 _ rfl) 1 _ rfl) Tryd.underlying65 rfl info65) rfl ⟨rfl, (hv.setCell (by simp) _).setCell (by simp) _⟩
  have hG : errG chs cks k a b = 0 := by unfold errG; rw [if_pos hE, if_pos hT, if_neg hab]
  rw [if_pos hG]
  have hb2 : 0 ≤ b ∧ b ≤ 1000000 := by rcases Classical.em (0 ≤ b ∧ b ≤ 1000000) with h | h; (exact h); (unfold timedF at hT; rw [if_neg h] at hT; omega)
  have d3 : decide (a > b) = false := decide_eq_false (by omega)
  have d3' : decide (b < a) = false := decide_eq_false hab
  have hz := errS_zero hE
  have hk := errK_zero hz.1
  obtain ⟨i, rfl⟩ : ∃ i : Nat, k = i := ⟨k.toNat, by omega⟩
  have hi : i < cks.length := by omega
  obtain ⟨hO, hEv, q, hq, hxq, hc⟩ := hk.1.at hi
  have c72a := fun W (hB : Below w.heap.size w W) => rstill_calls seed Ah chc Ak ckc chs cks i hi q hq a W (wat86 (hW.below hB)) hxq chs.length hO hEv hc hz.2
  have c72b := fun W (hB : Below w.heap.size w W) => rstill_calls seed Ah chc Ak ckc chs cks i hi q hq b W (wat86 (hW.below hB)) hxq chs.length hO hEv hc hb2
  have sta := still_b hO hEv hc hz.2
  have stb := still_b hO hEv hc hb2
  have hwk : 0 ≤ cks[i].wk ∧ cks[i].wk ≤ 1000000000 := ⟨hO.wk.1, (rt_b hO).2.2.2⟩
  have ha2 := hz.2
  rw [hE] at c59
  unfold stillK growF
  rw [ckAt_of hi]
  rw [room_of hq hxq]
  obtain ⟨SA, hSA⟩ : ∃ v, stillF cks[i] chs[q] a = v := ⟨_, rfl⟩
  obtain ⟨SB, hSB⟩ : ∃ v, stillF cks[i] chs[q] b = v := ⟨_, rfl⟩
  rw [hSA] at c72a sta ⊢
  rw [hSB] at c72b stb ⊢
  clear hSA hSB hO hEv hc hxq hq hk hz hE hG hT hb9
  have HC := Aside0.mk hW.k
  have hlk : cks.length ≤ 9223372036854775807 := hW.k.2.1
  have hi2 : (i : Int) < (cks.length : Int) := by omega
  clear hW
  obtain ⟨N, hN⟩ : ∃ n : Nat, (n : Int) = b / 100 := ⟨(b / 100).toNat, by omega⟩
  obtain ⟨A, hA⟩ : ∃ n : Nat, (n : Int) = a / 100 := ⟨(a / 100).toNat, by omega⟩
  rw [← hN, ← hA]
  have hN3 : N ≤ 10000 := by omega
  have hAN : A ≤ N := by omega
  rw [show (N : Int) - (A : Int) = ((N - A : Nat) : Int) by omega]
  obtain ⟨wk, hk9⟩ : ∃ d, cks[i].wk = d := ⟨_, rfl⟩
  rw [hk9] at hwk ⊢
  have HKH := Aside0.mk hk9
  clear hk9
  have HM := Aside0.mk (fun (j : Nat) (hj : j ≤ N) => show 0 ≤ wk * (j : Int) ∧ wk * (j : Int) ≤ 10000000000000 from ⟨Int.mul_nonneg hwk.1 (by omega), by have : wk * (j : Int) ≤ 1000000000 * 10000 := Int.mul_le_mul hwk.2 (by omega) (by omega) (by omega); omega⟩)
  have HN := Aside0.mk hN
  have HA := Aside0.mk hA
  clear hN hA
  have u1 : IntKind.i64.wrap (SB - SA) = SB - SA := C.wr _ (by omega) (by omega)
  go_enter Tryd.func38, Tryd.ntmps38
  go_wp2_with fail
  obtain ⟨w1, hw1⟩ : ∃ w1, (w.alloc (.cells #[.int .u64 seed, .slice Ah chs.length chc, .slice Ak cks.length ckc] 26)).alloc (.cells #[.int .i64 0, .int .i64 0] 65) = w1 := ⟨_, rfl⟩
  try rw [hw1]
  have hB : Below w.heap.size w w1 := by rw [← hw1]; exact ((Below.refl _ w).alloc (by first | exact Nat.le_refl _ | (simp; done) | (simp; omega)) _).alloc (by first | exact Nat.le_refl _ | (simp; done) | (simp; omega)) _
  have kx : w1.heap[w.heap.size]? = some (.cells #[.int .u64 seed, .slice Ah chs.length chc, .slice Ak cks.length ckc] 26 (0, 0)) := by rw [← hw1]; exact al_old (al_new _ _ _ (by first | rfl | (simp; done) | (simp; omega)))
  have x0 : w1.cell? ⟨w.heap.size, 0, none⟩ = some (.int .u64 seed) := blk_cell kx 0
  have x1 : w1.cell? ⟨w.heap.size, 1, none⟩ = some (.slice Ah chs.length chc) := blk_cell kx 1
  have x2 : w1.cell? ⟨w.heap.size, 2, none⟩ = some (.slice Ak cks.length ckc) := blk_cell kx 2
  have kr : w1.heap[w.heap.size + 1]? = some (.cells #[.int .i64 0, .int .i64 0] 65 (0, 0)) := by rw [← hw1]; exact al_new _ _ _ (by first | rfl | (simp; done) | (simp; omega))
  have r0 : w1.cell? ⟨w.heap.size + 1, 0, none⟩ = some (.int .i64 0) := blk_cell kr 0
  have r1 : w1.cell? ⟨w.heap.size + 1, 1, none⟩ = some (.int .i64 0) := blk_cell kr 1
  replace hv := hv.trans (hB.mono hv.size)
  clear hB hw1
  refine (c59 _ hv).mono ?_
  rintro en w2 ⟨rfl, hB⟩
  replace kx := blk_on hB kx
  replace kr := blk_on hB kr
  replace x0 := cell_on hB x0
  replace x1 := cell_on hB x1
  replace x2 := cell_on hB x2
  replace r0 := cell_on hB r0
  replace r1 := cell_on hB r1
  replace hv := hv.trans (hB.mono hv.size)
  have z0 := blk_frozen kr 0
  have z1 := blk_frozen kr 1
  clear hB c59
  go_wp2_with fail
  refine (d59 _ hv).mono ?_
  rintro en w3 ⟨rfl, hB⟩
  replace kx := blk_on hB kx
  replace kr := blk_on hB kr
  replace x0 := cell_on hB x0
  replace x1 := cell_on hB x1
  replace x2 := cell_on hB x2
  replace r0 := cell_on hB r0
  replace r1 := cell_on hB r1
  replace hv := hv.trans (hB.mono hv.size)
  have z0 := blk_frozen kr 0
  have z1 := blk_frozen kr 1
  clear hB d59
  go_upto_region 8 with fail
  have hS : ∀ w', Below w3.heap.size w3 w' → ((w'.cell? ⟨w.heap.size, 0, none⟩ = some (.int .u64 seed) ∧ w'.cell? ⟨w.heap.size, 1, none⟩ = some (.slice Ah chs.length chc) ∧ w'.cell? ⟨w.heap.size, 2, none⟩ = some (.slice Ak cks.length ckc)) ∧ Below w3.heap.size w3 w') := fun w' hB => ⟨⟨cell_on hB x0, cell_on hB x1, cell_on hB x2⟩, hB⟩
  have b72a := fun (W : World) (hB : Below w3.heap.size w3 W) => c72a W (hv.trans (hB.mono hv.size))
  have b72b := fun (W : World) (hB : Below w3.heap.size w3 W) => c72b W (hv.trans (hB.mono hv.size))
  clear c72a c72b
  go_cut [11] from 35 to 44 (fun s11 wx => s11 = .int .i64 (SB - SA) ∧ Aside0 (Below w3.heap.size w3 wx))
  case first =>
    go_region_held3 (fun w' => (w'.cell? ⟨w.heap.size, 0, none⟩ = some (.int .u64 seed) ∧ w'.cell? ⟨w.heap.size, 1, none⟩ = some (.slice Ah chs.length chc) ∧ w'.cell? ⟨w.heap.size, 2, none⟩ = some (.slice Ak cks.length ckc)) ∧ Below w3.heap.size w3 w') (first | exact hS _ (Below.refl _ _).drew | assumption | (have hh := ‹(_ ∧ _ ∧ _) ∧ Below w3.heap.size w3 _›; exact hS _ (hh.2.trans (hB.mono hh.2.size))))
      (first | (go_at_call 72; (first | (have hh := ‹(_ ∧ _ ∧ _) ∧ Below w3.heap.size w3 _›; with_reducible refine (b72a _ hh.2).mono ?_) | with_reducible refine (b72a _ (Below.refl _ _).drew).mono ?_ | with_reducible refine (b72a _ (Below.refl _ _)).mono ?_); rintro e w' ⟨rfl, hB⟩) | (go_at_call 72; (first | (have hh := ‹(_ ∧ _ ∧ _) ∧ Below w3.heap.size w3 _›; with_reducible refine (b72b _ hh.2).mono ?_) | with_reducible refine (b72b _ (Below.refl _ _).drew).mono ?_ | with_reducible refine (b72b _ (Below.refl _ _)).mono ?_); rintro e w' ⟨rfl, hB⟩))
    all_goals
      rename_i hHeld
      apply_assumption
      go_meet
      exact ⟨rfl, ⟨hHeld.2⟩⟩
  case rest =>
  obtain ⟨rfl, HBX⟩ := hcut
  rename World => wx
  have hB := HBX.out
  clear hS b72a b72b z0 z1 u1
  replace kx := blk_on hB kx
  replace kr := blk_on hB kr
  replace x0 := cell_on hB x0
  replace x1 := cell_on hB x1
  replace x2 := cell_on hB x2
  replace r0 := cell_on hB r0
  replace r1 := cell_on hB r1
  replace hv := hv.trans (hB.mono hv.size)
  clear hB HBX
  obtain ⟨ad, Ae, ce, rfl, hc0, hc1, hc2, hc3, hc4, hc5, hc6, hc7, hc8, hle, hCe⟩ := C_ck (Kd.C_below HC.out hv) i hi hi
  rw [HKH.out] at hc5
  clear hc0 hc1 hc2 hc3 hc4 hc6 hc7 hc8 hle hCe r0 r1 HC
  have HV := Aside0.mk hv
  have HKR := Aside0.mk kr
  clear hv kr kx
  go_wp2
  go_loopw [13, 12] (fun v13 v12 wr => ∃ j : Nat, j ≤ N ∧ v13 = .int .i64 (100 * (j : Int) + 100) ∧ v12 = .int .i64 (wk * ((j - A : Nat) : Int)) ∧ wr = wx) (fun v _ _ => b.toNat + 100 - (intOf v).toNat)
  case atStart => exact ⟨0, Nat.zero_le _, by simp, by simp, rfl⟩
  case round =>
    obtain ⟨j, hj, rfl, rfl, rfl⟩ := hrel
    have hm := HM.out (j - A) (by omega)
    by_cases hlt : j < N
    · have dlt : (100 : Int) * (j : Int) + 100 ≤ b := by have := HN.out; omega
      have dlt' : decide ((100 : Int) * (j : Int) + 100 ≤ b) = true := decide_eq_true dlt
      have v2 : IntKind.i64.wrap (100 * (j : Int) + 100 + 100) = 100 * (j : Int) + 100 + 100 := C.wr _ (by omega) (by omega)
      have hme := Aside0.mk (show (b.toNat : Int) = b by omega)
      by_cases hja : A ≤ j
      · have e0 : j + 1 - A = (j - A) + 1 := by omega
        have hm2 := HM.out (j + 1 - A) (by omega)
        have e1 : wk * ((j + 1 - A : Nat) : Int) = wk * ((j - A : Nat) : Int) + wk := by rw [e0]; push_cast; rw [Int.mul_add, Int.mul_one]
        have HE1 := Aside0.mk e1
        rw [e1] at hm2
        have g1 : decide ((100 : Int) * (j : Int) + 100 > a) = true := decide_eq_true (by have := HA.out; omega)
        have g1' : decide (a < (100 : Int) * (j : Int) + 100) = true := decide_eq_true (by have := HA.out; omega)
        obtain ⟨M, hM⟩ : ∃ m, wk * ((j - A : Nat) : Int) = m := ⟨_, rfl⟩
        rw [hM] at hm hm2 ⊢
        have v1 : IntKind.i64.wrap (M + wk) = M + wk := C.wr _ (by omega) (by omega)
        have HMM := Aside0.mk hM
        clear hM hm hm2 e0 e1
        go_wp2
        go_roundw
        case rel => exact ⟨j + 1, hlt, by first | (congr 1; push_cast; omega) | (simp; omega), by rw [HE1.out, HMM.out], by first | rfl | trivial⟩
        case measure => have := hme.out; simp [intOf]; omega
      · have e0 : j + 1 - A = j - A := by omega
        have HE0 := Aside0.mk e0
        have g1 : decide ((100 : Int) * (j : Int) + 100 > a) = false := decide_eq_false (by have := HA.out; omega)
        have g1' : decide (a < (100 : Int) * (j : Int) + 100) = false := decide_eq_false (by have := HA.out; omega)
        obtain ⟨M, hM⟩ : ∃ m, wk * ((j - A : Nat) : Int) = m := ⟨_, rfl⟩
        rw [hM] at hm ⊢
        have HMM := Aside0.mk hM
        clear hM hm e0
        go_wp2
        go_roundw
        case rel => exact ⟨j + 1, hlt, by first | (congr 1; push_cast; omega) | (simp; omega), by rw [HE0.out, HMM.out], by first | rfl | trivial⟩
        case measure => have := hme.out; simp [intOf]; omega
    · have dlt : ¬ (100 : Int) * (j : Int) + 100 ≤ b := by have := HN.out; omega
      have dlt' : decide ((100 : Int) * (j : Int) + 100 ≤ b) = false := decide_eq_false dlt
      obtain rfl : j = N := by omega
      obtain ⟨M, hM⟩ : ∃ m, wk * ((j - A : Nat) : Int) = m := ⟨_, rfl⟩
      rw [hM] at hm ⊢
      have v1 : IntKind.i64.wrap (SB - SA - M) = SB - SA - M := C.wr _ (by omega) (by omega)
      have v2 : IntKind.i64.wrap (SB - SA + M) = SB - SA + M := C.wr _ (by omega) (by omega)
      have kr := HKR.out
      have z0 := blk_frozen kr 0
      have z1 := blk_frozen kr 1
      have r0 : wr.cell? ⟨w.heap.size + 1, 0, none⟩ = some (.int .i64 0) := blk_cell kr 0
      have r1 : wr.cell? ⟨w.heap.size + 1, 1, none⟩ = some (.int .i64 0) := blk_cell kr 1
      have HMM := Aside0.mk hM
      clear hM
      go_wp2
      exact bodyPost_ret (results_row_tmp rfl _ _ (w.heap.size + 1) 65 _ (0, 0) _ rfl (blk_put (blk_put kr 0 _ rfl) 1 _ rfl) Tryd.underlying65 rfl info65) rfl ⟨by first | rfl | (rw [HMM.out]; rfl), (HV.out.setCell (by simp) _).setCell (by simp) _⟩
end Go.Proofs.YtlfnnalepdjagaaDoor.C
end
