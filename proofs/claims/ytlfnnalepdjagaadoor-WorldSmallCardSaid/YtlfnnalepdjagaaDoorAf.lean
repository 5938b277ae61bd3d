/- What Check's closures say of a chamber and of a clock. -/
import Derived.OwnWalk
import Derived.BigRegion
import Derived.Deep.Cut
import Derived.Deep.RegionHeld3
import Derived.Test.YtlfnnalepdjagaaDoorAe
namespace Go.Proofs.YtlfnnalepdjagaaDoor.C
open Go.RowKit Go.Shelf Go.Maps Go.Proofs.YtlfnnalepdjagaaDoorW.PrintWords Go.Proofs.YtlfnnalepdjagaaDoorW.PrintLast Go.Proofs.YtlfnnalepdjagaaDoorW.PrintMore
set_option linter.unusedVariables false
set_option linter.unusedSimpArgs false
def inW (n a b : Int) : Bool := decide (a ≤ n) && decide (n ≤ b)
theorem inW_calls (n a b : Int) (w : World) : Calls Tryd.prog 48 #[.int .i64 n, .int .i64 a, .int .i64 b] w fun e w' => e = .returned (.bool (inW n a b)) ∧ Below w.heap.size w w' := win_calls n a b w
/-- A chamber is wrong. -/
def badCh (c : T3) : Bool := !inW c.1 0 1000000 || !inW c.2.1 0 100000 || !inW c.2.2 2 1000000
set_option maxHeartbeats 4000000 in
set_option maxRecDepth 100000 in
theorem chamber_calls (a b c : Int) (w : World) : Calls Tryd.prog 61 #[.agg #[.int .i64 a, .int .i64 b, .int .i64 c]] w fun e w' => e = .returned (.bool (badCh (a, b, c))) ∧ Below w.heap.size w w' := by
  have hv := Below.refl w.heap.size w
  have c1 := fun w => inW_calls a 0 1000000 w
  have c2 := fun w => inW_calls b 0 100000 w
  have c3 := fun w => inW_calls c 2 1000000 w
  unfold badCh
  simp only
  generalize inW a 0 1000000 = b1 at *
  generalize inW b 0 100000 = b2 at *
  generalize inW c 2 1000000 = b3 at *
  cases b1
  · clear c2 c3
    go_enter Tryd.func61, Tryd.ntmps61
    go_wp2_with fail
    obtain ⟨w1, hw1⟩ : ∃ w1, w.alloc (.cells #[.int .i64 a, .int .i64 b, .int .i64 c] 53) = w1 := ⟨_, rfl⟩
    try rw [hw1]
    have hB : Below w.heap.size w w1 := by rw [← hw1]; exact (Below.refl _ w).alloc (by first | exact Nat.le_refl _ | (simp; done) | (simp; omega)) _
    have kx : w1.heap[w.heap.size]? = some (.cells #[.int .i64 a, .int .i64 b, .int .i64 c] 53 (0, 0)) := by rw [← hw1]; exact al_new _ _ _ (by first | rfl | (simp; done) | (simp; omega))
    have x0 : w1.cell? ⟨w.heap.size, 0, none⟩ = some (.int .i64 a) := blk_cell kx 0
    have x1 : w1.cell? ⟨w.heap.size, 1, none⟩ = some (.int .i64 b) := blk_cell kx 1
    have x2 : w1.cell? ⟨w.heap.size, 2, none⟩ = some (.int .i64 c) := blk_cell kx 2
    clear kx
    replace hv := hv.trans (hB.mono hv.size)
    clear hB hw1
    have hs1 := World.block_lt_of_cell? _ _ x0
    go_wp2_with fail
    refine (c1 _).mono ?_
    rintro en w2 ⟨rfl, hB⟩
    replace x0 := cell_on hB x0
    replace x1 := cell_on hB x1
    replace x2 := cell_on hB x2
    replace hv := hv.trans (hB.mono hv.size)
    clear hB c1
    go_wp2_with fail
    go_ret
    exact ⟨rfl, hv⟩
  · cases b2
    · clear c3
      go_enter Tryd.func61, Tryd.ntmps61
      go_wp2_with fail
      obtain ⟨w1, hw1⟩ : ∃ w1, w.alloc (.cells #[.int .i64 a, .int .i64 b, .int .i64 c] 53) = w1 := ⟨_, rfl⟩
      try rw [hw1]
      have hB : Below w.heap.size w w1 := by rw [← hw1]; exact (Below.refl _ w).alloc (by first | exact Nat.le_refl _ | (simp; done) | (simp; omega)) _
      have kx : w1.heap[w.heap.size]? = some (.cells #[.int .i64 a, .int .i64 b, .int .i64 c] 53 (0, 0)) := by rw [← hw1]; exact al_new _ _ _ (by first | rfl | (simp; done) | (simp; omega))
      have x0 : w1.cell? ⟨w.heap.size, 0, none⟩ = some (.int .i64 a) := blk_cell kx 0
      have x1 : w1.cell? ⟨w.heap.size, 1, none⟩ = some (.int .i64 b) := blk_cell kx 1
      have x2 : w1.cell? ⟨w.heap.size, 2, none⟩ = some (.int .i64 c) := blk_cell kx 2
      clear kx
      replace hv := hv.trans (hB.mono hv.size)
      clear hB hw1
      have hs1 := World.block_lt_of_cell? _ _ x0
      go_wp2_with fail
      refine (c1 _).mono ?_
      rintro en w2 ⟨rfl, hB⟩
      replace x0 := cell_on hB x0
      replace x1 := cell_on hB x1
      replace x2 := cell_on hB x2
      replace hv := hv.trans (hB.mono hv.size)
      clear hB c1
      go_wp2_with fail
      refine (c2 _).mono ?_
      rintro en w3 ⟨rfl, hB⟩
      replace x0 := cell_on hB x0
      replace x1 := cell_on hB x1
      replace x2 := cell_on hB x2
      replace hv := hv.trans (hB.mono hv.size)
      clear hB c2
      go_wp2_with fail
      go_ret
      exact ⟨rfl, hv⟩
    · cases b3
      · skip
        go_enter Tryd.func61, Tryd.ntmps61
        go_wp2_with fail
        obtain ⟨w1, hw1⟩ : ∃ w1, w.alloc (.cells #[.int .i64 a, .int .i64 b, .int .i64 c] 53) = w1 := ⟨_, rfl⟩
        try rw [hw1]
        have hB : Below w.heap.size w w1 := by rw [← hw1]; exact (Below.refl _ w).alloc (by first | exact Nat.le_refl _ | (simp; done) | (simp; omega)) _
        have kx : w1.heap[w.heap.size]? = some (.cells #[.int .i64 a, .int .i64 b, .int .i64 c] 53 (0, 0)) := by rw [← hw1]; exact al_new _ _ _ (by first | rfl | (simp; done) | (simp; omega))
        have x0 : w1.cell? ⟨w.heap.size, 0, none⟩ = some (.int .i64 a) := blk_cell kx 0
        have x1 : w1.cell? ⟨w.heap.size, 1, none⟩ = some (.int .i64 b) := blk_cell kx 1
        have x2 : w1.cell? ⟨w.heap.size, 2, none⟩ = some (.int .i64 c) := blk_cell kx 2
        clear kx
        replace hv := hv.trans (hB.mono hv.size)
        clear hB hw1
        have hs1 := World.block_lt_of_cell? _ _ x0
        go_wp2_with fail
        refine (c1 _).mono ?_
        rintro en w2 ⟨rfl, hB⟩
        replace x0 := cell_on hB x0
        replace x1 := cell_on hB x1
        replace x2 := cell_on hB x2
        replace hv := hv.trans (hB.mono hv.size)
        clear hB c1
        go_wp2_with fail
        refine (c2 _).mono ?_
        rintro en w3 ⟨rfl, hB⟩
        replace x0 := cell_on hB x0
        replace x1 := cell_on hB x1
        replace x2 := cell_on hB x2
        replace hv := hv.trans (hB.mono hv.size)
        clear hB c2
        go_wp2_with fail
        refine (c3 _).mono ?_
        rintro en w4 ⟨rfl, hB⟩
        replace x0 := cell_on hB x0
        replace x1 := cell_on hB x1
        replace x2 := cell_on hB x2
        replace hv := hv.trans (hB.mono hv.size)
        clear hB c3
        go_wp2_with fail
        go_ret
        exact ⟨rfl, hv⟩
      · skip
        go_enter Tryd.func61, Tryd.ntmps61
        go_wp2_with fail
        obtain ⟨w1, hw1⟩ : ∃ w1, w.alloc (.cells #[.int .i64 a, .int .i64 b, .int .i64 c] 53) = w1 := ⟨_, rfl⟩
        try rw [hw1]
        have hB : Below w.heap.size w w1 := by rw [← hw1]; exact (Below.refl _ w).alloc (by first | exact Nat.le_refl _ | (simp; done) | (simp; omega)) _
        have kx : w1.heap[w.heap.size]? = some (.cells #[.int .i64 a, .int .i64 b, .int .i64 c] 53 (0, 0)) := by rw [← hw1]; exact al_new _ _ _ (by first | rfl | (simp; done) | (simp; omega))
        have x0 : w1.cell? ⟨w.heap.size, 0, none⟩ = some (.int .i64 a) := blk_cell kx 0
        have x1 : w1.cell? ⟨w.heap.size, 1, none⟩ = some (.int .i64 b) := blk_cell kx 1
        have x2 : w1.cell? ⟨w.heap.size, 2, none⟩ = some (.int .i64 c) := blk_cell kx 2
        clear kx
        replace hv := hv.trans (hB.mono hv.size)
        clear hB hw1
        have hs1 := World.block_lt_of_cell? _ _ x0
        go_wp2_with fail
        refine (c1 _).mono ?_
        rintro en w2 ⟨rfl, hB⟩
        replace x0 := cell_on hB x0
        replace x1 := cell_on hB x1
        replace x2 := cell_on hB x2
        replace hv := hv.trans (hB.mono hv.size)
        clear hB c1
        go_wp2_with fail
        refine (c2 _).mono ?_
        rintro en w3 ⟨rfl, hB⟩
        replace x0 := cell_on hB x0
        replace x1 := cell_on hB x1
        replace x2 := cell_on hB x2
        replace hv := hv.trans (hB.mono hv.size)
        clear hB c2
        go_wp2_with fail
        refine (c3 _).mono ?_
        rintro en w4 ⟨rfl, hB⟩
        replace x0 := cell_on hB x0
        replace x1 := cell_on hB x1
        replace x2 := cell_on hB x2
        replace hv := hv.trans (hB.mono hv.size)
        clear hB c3
        go_wp2_with fail
        go_ret
        exact ⟨rfl, hv⟩
/-- The limits of a kind of clock. -/
def limV (n i : Nat) : Int := ([0, 0, 0, 0, 10000000, 10000, 10000000, 100000, 1000000, 100000, 100000, 10000, 100000, 0, 1000000, 1000, 100000, 0, 100000, 100, 10000000000, 10000000, 1000000000000, 1000000000] : List Int).getD (n * 4 + i) 0
/-- The table of limits lies in memory. -/
structure Lim (w : World) : Prop where
  c : ∀ j : Nat, j < 24 → w.cell? ⟨0, j, none⟩ = some (.int .i64 (limV 0 j))
theorem Lim.below {w w' : World} (h : Lim w) (hB : Below w.heap.size w w') : Lim w' := ⟨fun j hj => cell_on hB (h.c j hj)⟩
/-- A clock is wrong, but for its events. -/
def badCk (nch : Nat) (x : Ck) : Bool :=
  if inW x.kd 1 5 then !inW x.ph (-100000000000000) 100000000000000 || !inW x.rt (-limV x.kd.toNat 0) (limV x.kd.toNat 0) || !inW x.dr (-limV x.kd.toNat 1) (limV x.kd.toNat 1) || !inW x.wh 0 (limV x.kd.toNat 2) || !inW x.wk 0 (limV x.kd.toNat 3) || !inW x.ht (-1000000000) 1000000000 || !inW x.ch 0 ((nch : Int) - 1) else true
theorem limV_b : ∀ n : Nat, n < 6 → ∀ i : Nat, i < 4 → 0 ≤ limV n i ∧ limV n i ≤ 1000000000000 := by decide
theorem Lim.at {w : World} (h : Lim w) {n i : Nat} (hn : n < 6) (hi : i < 4) : w.cell? ⟨0, n * 4 + i, none⟩ = some (.int .i64 (limV n i)) := by
  have e := h.c (n * 4 + i) (by omega)
  unfold limV at e ⊢
  rw [Nat.zero_mul, Nat.zero_add] at e
  exact e
set_option maxHeartbeats 4000000 in
set_option maxRecDepth 100000 in
theorem clock_calls (x : Ck) (Ae : Option Addr) (ce : Nat) (B : Nat) (seed : Int) (Ah : Option Addr) (nch chc : Nat) (vk : Value) (w : World) (hL : Lim w) (hn : nch ≤ 9223372036854775807) (kb : w.heap[B]? = some (.cells #[.int .u64 seed, .slice Ah nch chc, vk] 32 (0, 0))) :
    Calls Tryd.prog 62 #[ckV x Ae ce, .pointer (some ⟨B, 0, none⟩)] w fun e w' => e = .returned (.bool (badCk nch x)) ∧ Below w.heap.size w w' := by
  have hv := Below.refl w.heap.size w
  obtain ⟨kd, ph, rt, dr, wh, wk, ht, ch, es⟩ := x
  unfold badCk ckV
  simp only
  have c0 := fun w => inW_calls kd 1 5 w
  by_cases h0 : inW kd 1 5 = true
  rotate_left
  · rw [if_neg h0]
    simp only [Bool.not_eq_true] at h0
    rw [h0] at c0
    clear h0 hL kb
    go_enter Tryd.func62, Tryd.ntmps62
    go_wp2_with fail
    obtain ⟨w1, hw1⟩ : ∃ w1, w.alloc (.cells #[.int .i64 kd, .int .i64 ph, .int .i64 rt, .int .i64 dr, .int .i64 wh, .int .i64 wk, .int .i64 ht, .int .i64 ch, .slice Ae es.length ce] 48) = w1 := ⟨_, rfl⟩
    try rw [hw1]
    have hB : Below w.heap.size w w1 := by rw [← hw1]; exact (Below.refl _ _).alloc (Nat.le_refl _) _
    have kx : w1.heap[w.heap.size]? = some (.cells #[.int .i64 kd, .int .i64 ph, .int .i64 rt, .int .i64 dr, .int .i64 wh, .int .i64 wk, .int .i64 ht, .int .i64 ch, .slice Ae es.length ce] 48 (0, 0)) := by rw [← hw1]; exact al_new _ _ _ rfl
    replace hv := hv.trans (hB.mono hv.size)
    clear hB hw1
    refine (c0 _).mono ?_
    rintro en w2 ⟨rfl, hB⟩
    replace hv := hv.trans (hB.mono hv.size)
    clear hB c0 kx
    go_wp2_with fail
    go_ret
    exact ⟨rfl, hv⟩
  rw [if_pos h0]
  have h0' := h0
  unfold inW at h0'
  simp at h0'
  rw [h0] at c0
  clear h0
  obtain ⟨n, rfl⟩ := Int.eq_ofNat_of_zero_le (show 0 ≤ kd by omega)
  have hn5 : n < 6 := by omega
  rw [Int.toNat_natCast]
  have b0 := limV_b n hn5 0 (by omega)
  have b1 := limV_b n hn5 1 (by omega)
  have b2 := limV_b n hn5 2 (by omega)
  have b3 := limV_b n hn5 3 (by omega)
  have l0 : w.cell? ⟨0, n * 4, none⟩ = some (.int .i64 (limV n 0)) := hL.at hn5 (i := 0) (by omega)
  have l1 := hL.at hn5 (i := 1) (by omega)
  have l2 := hL.at hn5 (i := 2) (by omega)
  have l3 := hL.at hn5 (i := 3) (by omega)
  generalize limV n 0 = L0 at *
  generalize limV n 1 = L1 at *
  generalize limV n 2 = L2 at *
  generalize limV n 3 = L3 at *
  clear hL
  have u0 := wr (-L0) (by omega) (by omega)
  have u1 := wr (-L1) (by omega) (by omega)
  have u7 := wr ((nch : Int) - 1) (by omega) (by omega)
  have hn0 : (0 : Int) ≤ (n : Int) := by omega
  have hn6 : (n : Int) < 6 := by omega
  have d1 := fun w => inW_calls ph (-100000000000000) 100000000000000 w
  have d2 := fun w => inW_calls rt (-L0) L0 w
  have d3 := fun w => inW_calls dr (-L1) L1 w
  have d4 := fun w => inW_calls wh 0 L2 w
  have d5 := fun w => inW_calls wk 0 L3 w
  have d6 := fun w => inW_calls ht (-1000000000) 1000000000 w
  have d7 := fun w => inW_calls ch 0 ((nch : Int) - 1) w
  generalize inW ph (-100000000000000) 100000000000000 = r1 at *
  generalize inW rt (-L0) L0 = r2 at *
  generalize inW dr (-L1) L1 = r3 at *
  generalize inW wh 0 L2 = r4 at *
  generalize inW wk 0 L3 = r5 at *
  generalize inW ht (-1000000000) 1000000000 = r6 at *
  generalize inW ch 0 ((nch : Int) - 1) = r7 at *
  go_enter Tryd.func62, Tryd.ntmps62
  go_wp2_with fail
  obtain ⟨w1, hw1⟩ : ∃ w1, w.alloc (.cells #[.int .i64 (n : Int), .int .i64 ph, .int .i64 rt, .int .i64 dr, .int .i64 wh, .int .i64 wk, .int .i64 ht, .int .i64 ch, .slice Ae es.length ce] 48) = w1 := ⟨_, rfl⟩
  try rw [hw1]
  have hB : Below w.heap.size w w1 := by rw [← hw1]; exact (Below.refl _ _).alloc (Nat.le_refl _) _
  have kx : w1.heap[w.heap.size]? = some (.cells #[.int .i64 (n : Int), .int .i64 ph, .int .i64 rt, .int .i64 dr, .int .i64 wh, .int .i64 wk, .int .i64 ht, .int .i64 ch, .slice Ae es.length ce] 48 (0, 0)) := by rw [← hw1]; exact al_new _ _ _ rfl
  replace hv := hv.trans (hB.mono hv.size)
  replace kb := blk_on hB kb
  replace l0 := cell_on hB l0
  replace l1 := cell_on hB l1
  replace l2 := cell_on hB l2
  replace l3 := cell_on hB l3
  clear hB hw1
  have x0 : w1.cell? ⟨w.heap.size, 0, none⟩ = some (.int .i64 (n : Int)) := blk_cell kx 0
  refine (c0 _).mono ?_
  rintro en w2 ⟨rfl, hB⟩
  replace kb := blk_on hB kb
  replace kx := blk_on hB kx
  replace x0 := cell_on hB x0
  replace l0 := cell_on hB l0
  replace l1 := cell_on hB l1
  replace l2 := cell_on hB l2
  replace l3 := cell_on hB l3
  replace hv := hv.trans (hB.mono hv.size)
  clear hB c0
  have x1 : w2.cell? ⟨w.heap.size, 1, none⟩ = some (.int .i64 ph) := blk_cell kx 1
  have hs1 := World.block_lt_of_cell? _ _ x1
  go_wp2_with fail
  obtain ⟨w3, hw3⟩ : ∃ w3, w2.alloc (.cells #[.int .i64 L0, .int .i64 L1, .int .i64 L2, .int .i64 L3] 109) = w3 := ⟨_, rfl⟩
  try rw [hw3]
  have hB : Below w2.heap.size w2 w3 := by rw [← hw3]; exact (Below.refl _ _).alloc (Nat.le_refl _) _
  have ky : w3.heap[w2.heap.size]? = some (.cells #[.int .i64 L0, .int .i64 L1, .int .i64 L2, .int .i64 L3] 109 (0, 0)) := by rw [← hw3]; exact al_new _ _ _ rfl
  replace kb := blk_on hB kb
  replace kx := blk_on hB kx
  replace hv := hv.trans (hB.mono hv.size)
  clear hB hw3 x0 x1 l0 l1 l2 l3 hs1
  have KB := Aside0.mk kb
  have KX := Aside0.mk kx
  have KY := Aside0.mk ky
  clear kb kx ky
  cases r1
  · skip
    refine (d1 _).mono ?_
    rintro en w4 ⟨rfl, hB⟩
    replace KB := Aside0.mk (blk_on hB KB.out)
    replace KX := Aside0.mk (blk_on hB KX.out)
    replace KY := Aside0.mk (blk_on hB KY.out)
    replace hv := hv.trans (hB.mono hv.size)
    clear hB d1
    go_wp2_with fail
    go_ret
    exact ⟨rfl, hv⟩
  · skip
    cases r2
    · skip
      refine (d1 _).mono ?_
      rintro en w4 ⟨rfl, hB⟩
      replace KB := Aside0.mk (blk_on hB KB.out)
      replace KX := Aside0.mk (blk_on hB KX.out)
      replace KY := Aside0.mk (blk_on hB KY.out)
      replace hv := hv.trans (hB.mono hv.size)
      clear hB d1
      have x2 : w4.cell? ⟨w.heap.size, 2, none⟩ = some (.int .i64 rt) := blk_cell KX.out 2
      have y0 : w4.cell? ⟨w2.heap.size, 0, none⟩ = some (.int .i64 L0) := blk_cell KY.out 0
      go_wp2_with fail
      clear x2 y0
      refine (d2 _).mono ?_
      rintro en w5 ⟨rfl, hB⟩
      replace KB := Aside0.mk (blk_on hB KB.out)
      replace KX := Aside0.mk (blk_on hB KX.out)
      replace KY := Aside0.mk (blk_on hB KY.out)
      replace hv := hv.trans (hB.mono hv.size)
      clear hB d2
      go_wp2_with fail
      go_ret
      exact ⟨rfl, hv⟩
    · skip
      cases r3
      · skip
        refine (d1 _).mono ?_
        rintro en w4 ⟨rfl, hB⟩
        replace KB := Aside0.mk (blk_on hB KB.out)
        replace KX := Aside0.mk (blk_on hB KX.out)
        replace KY := Aside0.mk (blk_on hB KY.out)
        replace hv := hv.trans (hB.mono hv.size)
        clear hB d1
        have x2 : w4.cell? ⟨w.heap.size, 2, none⟩ = some (.int .i64 rt) := blk_cell KX.out 2
        have y0 : w4.cell? ⟨w2.heap.size, 0, none⟩ = some (.int .i64 L0) := blk_cell KY.out 0
        go_wp2_with fail
        clear x2 y0
        refine (d2 _).mono ?_
        rintro en w5 ⟨rfl, hB⟩
        replace KB := Aside0.mk (blk_on hB KB.out)
        replace KX := Aside0.mk (blk_on hB KX.out)
        replace KY := Aside0.mk (blk_on hB KY.out)
        replace hv := hv.trans (hB.mono hv.size)
        clear hB d2
        have x3 : w5.cell? ⟨w.heap.size, 3, none⟩ = some (.int .i64 dr) := blk_cell KX.out 3
        have y1 : w5.cell? ⟨w2.heap.size, 1, none⟩ = some (.int .i64 L1) := blk_cell KY.out 1
        go_wp2_with fail
        clear x3 y1
        refine (d3 _).mono ?_
        rintro en w6 ⟨rfl, hB⟩
        replace KB := Aside0.mk (blk_on hB KB.out)
        replace KX := Aside0.mk (blk_on hB KX.out)
        replace KY := Aside0.mk (blk_on hB KY.out)
        replace hv := hv.trans (hB.mono hv.size)
        clear hB d3
        go_wp2_with fail
        go_ret
        exact ⟨rfl, hv⟩
      · skip
        cases r4
        · skip
          refine (d1 _).mono ?_
          rintro en w4 ⟨rfl, hB⟩
          replace KB := Aside0.mk (blk_on hB KB.out)
          replace KX := Aside0.mk (blk_on hB KX.out)
          replace KY := Aside0.mk (blk_on hB KY.out)
          replace hv := hv.trans (hB.mono hv.size)
          clear hB d1
          have x2 : w4.cell? ⟨w.heap.size, 2, none⟩ = some (.int .i64 rt) := blk_cell KX.out 2
          have y0 : w4.cell? ⟨w2.heap.size, 0, none⟩ = some (.int .i64 L0) := blk_cell KY.out 0
          go_wp2_with fail
          clear x2 y0
          refine (d2 _).mono ?_
          rintro en w5 ⟨rfl, hB⟩
          replace KB := Aside0.mk (blk_on hB KB.out)
          replace KX := Aside0.mk (blk_on hB KX.out)
          replace KY := Aside0.mk (blk_on hB KY.out)
          replace hv := hv.trans (hB.mono hv.size)
          clear hB d2
          have x3 : w5.cell? ⟨w.heap.size, 3, none⟩ = some (.int .i64 dr) := blk_cell KX.out 3
          have y1 : w5.cell? ⟨w2.heap.size, 1, none⟩ = some (.int .i64 L1) := blk_cell KY.out 1
          go_wp2_with fail
          clear x3 y1
          refine (d3 _).mono ?_
          rintro en w6 ⟨rfl, hB⟩
          replace KB := Aside0.mk (blk_on hB KB.out)
          replace KX := Aside0.mk (blk_on hB KX.out)
          replace KY := Aside0.mk (blk_on hB KY.out)
          replace hv := hv.trans (hB.mono hv.size)
          clear hB d3
          have x4 : w6.cell? ⟨w.heap.size, 4, none⟩ = some (.int .i64 wh) := blk_cell KX.out 4
          have y2 : w6.cell? ⟨w2.heap.size, 2, none⟩ = some (.int .i64 L2) := blk_cell KY.out 2
          go_wp2_with fail
          clear x4 y2
          refine (d4 _).mono ?_
          rintro en w7 ⟨rfl, hB⟩
          replace KB := Aside0.mk (blk_on hB KB.out)
          replace KX := Aside0.mk (blk_on hB KX.out)
          replace KY := Aside0.mk (blk_on hB KY.out)
          replace hv := hv.trans (hB.mono hv.size)
          clear hB d4
          go_wp2_with fail
          go_ret
          exact ⟨rfl, hv⟩
        · skip
          cases r5
          · skip
            refine (d1 _).mono ?_
            rintro en w4 ⟨rfl, hB⟩
            replace KB := Aside0.mk (blk_on hB KB.out)
            replace KX := Aside0.mk (blk_on hB KX.out)
            replace KY := Aside0.mk (blk_on hB KY.out)
            replace hv := hv.trans (hB.mono hv.size)
            clear hB d1
            have x2 : w4.cell? ⟨w.heap.size, 2, none⟩ = some (.int .i64 rt) := blk_cell KX.out 2
            have y0 : w4.cell? ⟨w2.heap.size, 0, none⟩ = some (.int .i64 L0) := blk_cell KY.out 0
            go_wp2_with fail
            clear x2 y0
            refine (d2 _).mono ?_
            rintro en w5 ⟨rfl, hB⟩
            replace KB := Aside0.mk (blk_on hB KB.out)
            replace KX := Aside0.mk (blk_on hB KX.out)
            replace KY := Aside0.mk (blk_on hB KY.out)
            replace hv := hv.trans (hB.mono hv.size)
            clear hB d2
            have x3 : w5.cell? ⟨w.heap.size, 3, none⟩ = some (.int .i64 dr) := blk_cell KX.out 3
            have y1 : w5.cell? ⟨w2.heap.size, 1, none⟩ = some (.int .i64 L1) := blk_cell KY.out 1
            go_wp2_with fail
            clear x3 y1
            refine (d3 _).mono ?_
            rintro en w6 ⟨rfl, hB⟩
            replace KB := Aside0.mk (blk_on hB KB.out)
            replace KX := Aside0.mk (blk_on hB KX.out)
            replace KY := Aside0.mk (blk_on hB KY.out)
            replace hv := hv.trans (hB.mono hv.size)
            clear hB d3
            have x4 : w6.cell? ⟨w.heap.size, 4, none⟩ = some (.int .i64 wh) := blk_cell KX.out 4
            have y2 : w6.cell? ⟨w2.heap.size, 2, none⟩ = some (.int .i64 L2) := blk_cell KY.out 2
            go_wp2_with fail
            clear x4 y2
            refine (d4 _).mono ?_
            rintro en w7 ⟨rfl, hB⟩
            replace KB := Aside0.mk (blk_on hB KB.out)
            replace KX := Aside0.mk (blk_on hB KX.out)
            replace KY := Aside0.mk (blk_on hB KY.out)
            replace hv := hv.trans (hB.mono hv.size)
            clear hB d4
            have x5 : w7.cell? ⟨w.heap.size, 5, none⟩ = some (.int .i64 wk) := blk_cell KX.out 5
            have y3 : w7.cell? ⟨w2.heap.size, 3, none⟩ = some (.int .i64 L3) := blk_cell KY.out 3
            go_wp2_with fail
            clear x5 y3
            refine (d5 _).mono ?_
            rintro en w8 ⟨rfl, hB⟩
            replace KB := Aside0.mk (blk_on hB KB.out)
            replace KX := Aside0.mk (blk_on hB KX.out)
            replace KY := Aside0.mk (blk_on hB KY.out)
            replace hv := hv.trans (hB.mono hv.size)
            clear hB d5
            go_wp2_with fail
            go_ret
            exact ⟨rfl, hv⟩
          · skip
            cases r6
            · skip
              refine (d1 _).mono ?_
              rintro en w4 ⟨rfl, hB⟩
              replace KB := Aside0.mk (blk_on hB KB.out)
              replace KX := Aside0.mk (blk_on hB KX.out)
              replace KY := Aside0.mk (blk_on hB KY.out)
              replace hv := hv.trans (hB.mono hv.size)
              clear hB d1
              have x2 : w4.cell? ⟨w.heap.size, 2, none⟩ = some (.int .i64 rt) := blk_cell KX.out 2
              have y0 : w4.cell? ⟨w2.heap.size, 0, none⟩ = some (.int .i64 L0) := blk_cell KY.out 0
              go_wp2_with fail
              clear x2 y0
              refine (d2 _).mono ?_
              rintro en w5 ⟨rfl, hB⟩
              replace KB := Aside0.mk (blk_on hB KB.out)
              replace KX := Aside0.mk (blk_on hB KX.out)
              replace KY := Aside0.mk (blk_on hB KY.out)
              replace hv := hv.trans (hB.mono hv.size)
              clear hB d2
              have x3 : w5.cell? ⟨w.heap.size, 3, none⟩ = some (.int .i64 dr) := blk_cell KX.out 3
              have y1 : w5.cell? ⟨w2.heap.size, 1, none⟩ = some (.int .i64 L1) := blk_cell KY.out 1
              go_wp2_with fail
              clear x3 y1
              refine (d3 _).mono ?_
              rintro en w6 ⟨rfl, hB⟩
              replace KB := Aside0.mk (blk_on hB KB.out)
              replace KX := Aside0.mk (blk_on hB KX.out)
              replace KY := Aside0.mk (blk_on hB KY.out)
              replace hv := hv.trans (hB.mono hv.size)
              clear hB d3
              have x4 : w6.cell? ⟨w.heap.size, 4, none⟩ = some (.int .i64 wh) := blk_cell KX.out 4
              have y2 : w6.cell? ⟨w2.heap.size, 2, none⟩ = some (.int .i64 L2) := blk_cell KY.out 2
              go_wp2_with fail
              clear x4 y2
              refine (d4 _).mono ?_
              rintro en w7 ⟨rfl, hB⟩
              replace KB := Aside0.mk (blk_on hB KB.out)
              replace KX := Aside0.mk (blk_on hB KX.out)
              replace KY := Aside0.mk (blk_on hB KY.out)
              replace hv := hv.trans (hB.mono hv.size)
              clear hB d4
              have x5 : w7.cell? ⟨w.heap.size, 5, none⟩ = some (.int .i64 wk) := blk_cell KX.out 5
              have y3 : w7.cell? ⟨w2.heap.size, 3, none⟩ = some (.int .i64 L3) := blk_cell KY.out 3
              go_wp2_with fail
              clear x5 y3
              refine (d5 _).mono ?_
              rintro en w8 ⟨rfl, hB⟩
              replace KB := Aside0.mk (blk_on hB KB.out)
              replace KX := Aside0.mk (blk_on hB KX.out)
              replace KY := Aside0.mk (blk_on hB KY.out)
              replace hv := hv.trans (hB.mono hv.size)
              clear hB d5
              have x6 : w8.cell? ⟨w.heap.size, 6, none⟩ = some (.int .i64 ht) := blk_cell KX.out 6
              go_wp2_with fail
              clear x6
              refine (d6 _).mono ?_
              rintro en w9 ⟨rfl, hB⟩
              replace KB := Aside0.mk (blk_on hB KB.out)
              replace KX := Aside0.mk (blk_on hB KX.out)
              replace KY := Aside0.mk (blk_on hB KY.out)
              replace hv := hv.trans (hB.mono hv.size)
              clear hB d6
              go_wp2_with fail
              go_ret
              exact ⟨rfl, hv⟩
            · skip
              cases r7
              · skip
                refine (d1 _).mono ?_
                rintro en w4 ⟨rfl, hB⟩
                replace KB := Aside0.mk (blk_on hB KB.out)
                replace KX := Aside0.mk (blk_on hB KX.out)
                replace KY := Aside0.mk (blk_on hB KY.out)
                replace hv := hv.trans (hB.mono hv.size)
                clear hB d1
                have x2 : w4.cell? ⟨w.heap.size, 2, none⟩ = some (.int .i64 rt) := blk_cell KX.out 2
                have y0 : w4.cell? ⟨w2.heap.size, 0, none⟩ = some (.int .i64 L0) := blk_cell KY.out 0
                go_wp2_with fail
                clear x2 y0
                refine (d2 _).mono ?_
                rintro en w5 ⟨rfl, hB⟩
                replace KB := Aside0.mk (blk_on hB KB.out)
                replace KX := Aside0.mk (blk_on hB KX.out)
                replace KY := Aside0.mk (blk_on hB KY.out)
                replace hv := hv.trans (hB.mono hv.size)
                clear hB d2
                have x3 : w5.cell? ⟨w.heap.size, 3, none⟩ = some (.int .i64 dr) := blk_cell KX.out 3
                have y1 : w5.cell? ⟨w2.heap.size, 1, none⟩ = some (.int .i64 L1) := blk_cell KY.out 1
                go_wp2_with fail
                clear x3 y1
                refine (d3 _).mono ?_
                rintro en w6 ⟨rfl, hB⟩
                replace KB := Aside0.mk (blk_on hB KB.out)
                replace KX := Aside0.mk (blk_on hB KX.out)
                replace KY := Aside0.mk (blk_on hB KY.out)
                replace hv := hv.trans (hB.mono hv.size)
                clear hB d3
                have x4 : w6.cell? ⟨w.heap.size, 4, none⟩ = some (.int .i64 wh) := blk_cell KX.out 4
                have y2 : w6.cell? ⟨w2.heap.size, 2, none⟩ = some (.int .i64 L2) := blk_cell KY.out 2
                go_wp2_with fail
                clear x4 y2
                refine (d4 _).mono ?_
                rintro en w7 ⟨rfl, hB⟩
                replace KB := Aside0.mk (blk_on hB KB.out)
                replace KX := Aside0.mk (blk_on hB KX.out)
                replace KY := Aside0.mk (blk_on hB KY.out)
                replace hv := hv.trans (hB.mono hv.size)
                clear hB d4
                have x5 : w7.cell? ⟨w.heap.size, 5, none⟩ = some (.int .i64 wk) := blk_cell KX.out 5
                have y3 : w7.cell? ⟨w2.heap.size, 3, none⟩ = some (.int .i64 L3) := blk_cell KY.out 3
                go_wp2_with fail
                clear x5 y3
                refine (d5 _).mono ?_
                rintro en w8 ⟨rfl, hB⟩
                replace KB := Aside0.mk (blk_on hB KB.out)
                replace KX := Aside0.mk (blk_on hB KX.out)
                replace KY := Aside0.mk (blk_on hB KY.out)
                replace hv := hv.trans (hB.mono hv.size)
                clear hB d5
                have x6 : w8.cell? ⟨w.heap.size, 6, none⟩ = some (.int .i64 ht) := blk_cell KX.out 6
                go_wp2_with fail
                clear x6
                refine (d6 _).mono ?_
                rintro en w9 ⟨rfl, hB⟩
                replace KB := Aside0.mk (blk_on hB KB.out)
                replace KX := Aside0.mk (blk_on hB KX.out)
                replace KY := Aside0.mk (blk_on hB KY.out)
                replace hv := hv.trans (hB.mono hv.size)
                clear hB d6
                have x7 : w9.cell? ⟨w.heap.size, 7, none⟩ = some (.int .i64 ch) := blk_cell KX.out 7
                have p1 : w9.cell? ⟨B, 1, none⟩ = some (.slice Ah nch chc) := blk_cell KB.out 1
                go_wp2_with fail
                clear x7 p1
                refine (d7 _).mono ?_
                rintro en w10 ⟨rfl, hB⟩
                replace KB := Aside0.mk (blk_on hB KB.out)
                replace KX := Aside0.mk (blk_on hB KX.out)
                replace KY := Aside0.mk (blk_on hB KY.out)
                replace hv := hv.trans (hB.mono hv.size)
                clear hB d7
                go_wp2_with fail
                go_ret
                exact ⟨rfl, hv⟩
              · skip
                skip
                refine (d1 _).mono ?_
                rintro en w4 ⟨rfl, hB⟩
                replace KB := Aside0.mk (blk_on hB KB.out)
                replace KX := Aside0.mk (blk_on hB KX.out)
                replace KY := Aside0.mk (blk_on hB KY.out)
                replace hv := hv.trans (hB.mono hv.size)
                clear hB d1
                have x2 : w4.cell? ⟨w.heap.size, 2, none⟩ = some (.int .i64 rt) := blk_cell KX.out 2
                have y0 : w4.cell? ⟨w2.heap.size, 0, none⟩ = some (.int .i64 L0) := blk_cell KY.out 0
                go_wp2_with fail
                clear x2 y0
                refine (d2 _).mono ?_
                rintro en w5 ⟨rfl, hB⟩
                replace KB := Aside0.mk (blk_on hB KB.out)
                replace KX := Aside0.mk (blk_on hB KX.out)
                replace KY := Aside0.mk (blk_on hB KY.out)
                replace hv := hv.trans (hB.mono hv.size)
                clear hB d2
                have x3 : w5.cell? ⟨w.heap.size, 3, none⟩ = some (.int .i64 dr) := blk_cell KX.out 3
                have y1 : w5.cell? ⟨w2.heap.size, 1, none⟩ = some (.int .i64 L1) := blk_cell KY.out 1
                go_wp2_with fail
                clear x3 y1
                refine (d3 _).mono ?_
                rintro en w6 ⟨rfl, hB⟩
                replace KB := Aside0.mk (blk_on hB KB.out)
                replace KX := Aside0.mk (blk_on hB KX.out)
                replace KY := Aside0.mk (blk_on hB KY.out)
                replace hv := hv.trans (hB.mono hv.size)
                clear hB d3
                have x4 : w6.cell? ⟨w.heap.size, 4, none⟩ = some (.int .i64 wh) := blk_cell KX.out 4
                have y2 : w6.cell? ⟨w2.heap.size, 2, none⟩ = some (.int .i64 L2) := blk_cell KY.out 2
                go_wp2_with fail
                clear x4 y2
                refine (d4 _).mono ?_
                rintro en w7 ⟨rfl, hB⟩
                replace KB := Aside0.mk (blk_on hB KB.out)
                replace KX := Aside0.mk (blk_on hB KX.out)
                replace KY := Aside0.mk (blk_on hB KY.out)
                replace hv := hv.trans (hB.mono hv.size)
                clear hB d4
                have x5 : w7.cell? ⟨w.heap.size, 5, none⟩ = some (.int .i64 wk) := blk_cell KX.out 5
                have y3 : w7.cell? ⟨w2.heap.size, 3, none⟩ = some (.int .i64 L3) := blk_cell KY.out 3
                go_wp2_with fail
                clear x5 y3
                refine (d5 _).mono ?_
                rintro en w8 ⟨rfl, hB⟩
                replace KB := Aside0.mk (blk_on hB KB.out)
                replace KX := Aside0.mk (blk_on hB KX.out)
                replace KY := Aside0.mk (blk_on hB KY.out)
                replace hv := hv.trans (hB.mono hv.size)
                clear hB d5
                have x6 : w8.cell? ⟨w.heap.size, 6, none⟩ = some (.int .i64 ht) := blk_cell KX.out 6
                go_wp2_with fail
                clear x6
                refine (d6 _).mono ?_
                rintro en w9 ⟨rfl, hB⟩
                replace KB := Aside0.mk (blk_on hB KB.out)
                replace KX := Aside0.mk (blk_on hB KX.out)
                replace KY := Aside0.mk (blk_on hB KY.out)
                replace hv := hv.trans (hB.mono hv.size)
                clear hB d6
                have x7 : w9.cell? ⟨w.heap.size, 7, none⟩ = some (.int .i64 ch) := blk_cell KX.out 7
                have p1 : w9.cell? ⟨B, 1, none⟩ = some (.slice Ah nch chc) := blk_cell KB.out 1
                go_wp2_with fail
                clear x7 p1
                refine (d7 _).mono ?_
                rintro en w10 ⟨rfl, hB⟩
                replace KB := Aside0.mk (blk_on hB KB.out)
                replace KX := Aside0.mk (blk_on hB KX.out)
                replace KY := Aside0.mk (blk_on hB KY.out)
                replace hv := hv.trans (hB.mono hv.size)
                clear hB d7
                go_wp2_with fail
                go_ret
                exact ⟨rfl, hv⟩
end Go.Proofs.YtlfnnalepdjagaaDoor.C
