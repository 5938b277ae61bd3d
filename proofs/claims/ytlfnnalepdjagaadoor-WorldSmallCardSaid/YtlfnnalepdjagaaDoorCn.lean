/- The contract of Track. -/
import Derived.OwnWalk
import Derived.BigRegion
import Derived.WalkKit
import Derived.Deep.CutBlock
import Derived.Deep.RegionHeld3
import Derived.Test.YtlfnnalepdjagaaDoorCm
namespace Go.Proofs.YtlfnnalepdjagaaDoor.C
open Go.RowKit Go.Shelf Go.Maps Go.Proofs.YtlfnnalepdjagaaDoorW.PrintWords Go.Proofs.YtlfnnalepdjagaaDoorW.PrintLast Go.Proofs.YtlfnnalepdjagaaDoorW.PrintMore
set_option linter.unusedVariables false
set_option linter.unusedSimpArgs false
theorem info3n : (Tryd.prog.info? 3).map (fun i => (i.zero, i.size, i.bytes)) = some (some (.int .i64 0), 1, 8) := by kernel_rfl
set_option maxHeartbeats 4000000 in
set_option maxRecDepth 100000 in
theorem Track_calls (seed : Int) (Ah : Option Addr) (chc : Nat) (Ak : Option Addr) (ckc : Nat) (chs : List T3) (cks : List Ck) (k fr st n : Int) (w : World) (hL : Lim w) (hW : WAt 51 w Ah Ak chs cks) (hwf : WfK cks) (hn9 : n ≤ 9223372036854775807) :
    Calls Tryd.prog 35 #[woV seed Ah chs.length chc Ak cks.length ckc, .int .i64 k, .int .i64 fr, .int .i64 st, .int .i64 n] w fun e w' => ∃ A c, e = .returned (.tuple #[.slice A (trackL seed chs cks k fr st n).length c, .int .i64 (errTr chs cks k fr st n)]) ∧ Kd.C kI w' A (trackL seed chs cks k fr st n).length (trackL seed chs cks k fr st n) ∧ Below w.heap.size w w' := by
  have hv := Below.refl w.heap.size w
  by_cases hE : errK chs cks k = 0
  rotate_left
  · have c47 := fun W (hB : Below w.heap.size w W) => find_err seed Ah chc Ak ckc chs cks k W (hL.below hB) (hW.below hB) hwf hE
    have e1 : errTr chs cks k fr st n = errK chs cks k := by unfold errTr; rw [if_neg hE]
    have e2 : trackL seed chs cks k fr st n = [] := by unfold trackL; rw [e1, if_neg hE]
    rw [e1, e2]
    clear e1 e2 hL hW hwf
    generalize errK chs cks k = E at *
    have d1 : (E == 0) = false := beq_eq_false_iff_ne.2 hE
    unfold wkZ at c47
    go_enter Tryd.func35, Tryd.ntmps35
    go_wp2_with fail
    obtain ⟨w1, hw1⟩ : ∃ w1, w.alloc (.cells #[.int .u64 seed, .slice Ah chs.length chc, .slice Ak cks.length ckc] 32) = w1 := ⟨_, rfl⟩
    try rw [hw1]
    have hB : Below w.heap.size w w1 := by rw [← hw1]; exact (Below.refl _ w).alloc (by first | exact Nat.le_refl _ | (simp; done) | (simp; omega)) _
    have kx : w1.heap[w.heap.size]? = some (.cells #[.int .u64 seed, .slice Ah chs.length chc, .slice Ak cks.length ckc] 32 (0, 0)) := by rw [← hw1]; exact al_new _ _ _ (by first | rfl | (simp; done) | (simp; omega))
    have x0 : w1.cell? ⟨w.heap.size, 0, none⟩ = some (.int .u64 seed) := blk_cell kx 0
    have x1 : w1.cell? ⟨w.heap.size, 1, none⟩ = some (.slice Ah chs.length chc) := blk_cell kx 1
    have x2 : w1.cell? ⟨w.heap.size, 2, none⟩ = some (.slice Ak cks.length ckc) := blk_cell kx 2
    clear kx
    replace hv := hv.trans (hB.mono hv.size)
    clear hB hw1
    refine (c47 _ hv).mono ?_
    rintro en w2 ⟨rfl, hB⟩
    replace x0 := cell_on hB x0
    replace x1 := cell_on hB x1
    replace x2 := cell_on hB x2
    replace hv := hv.trans (hB.mono hv.size)
    clear hB c47 x0 x1 x2
    go_wp2
    go_ret2
    exact ⟨none, 0, rfl, C_nil _ _, hv.alloc hv.size _⟩
  have hk := errK_zero hE
  obtain ⟨i, rfl⟩ : ∃ i : Nat, k = i := ⟨k.toNat, by omega⟩
  have hi : i < cks.length := by omega
  obtain ⟨hO, hEv, q, hq, hxq, hc⟩ := hk.1.at hi
  have hik : 0 ≤ (i : Int) ∧ (i : Int) ≤ 1000000000000000 := by have := hk.1.nk; omega
  have hSH := fun (s : Int) (hs : 0 ≤ s ∧ s ≤ 1000000) => shown_tight (seed := seed) hk.1 hi hs
  have HEK := Aside0.mk hE
  have hck := ckAt_of hi
  have hsf := fun (s : Int) => shownF_of (chs := chs) (cks := cks) hi rfl hq hxq seed s
  obtain ⟨x, hx⟩ : ∃ x, cks[i] = x := ⟨_, rfl⟩
  rw [hx] at hO hEv hxq hck hsf
  have c47 := fun W (hB : Below w.heap.size w W) => find_at seed Ah chc Ak ckc chs cks i hi x hx W (hL.below hB) hwf w hB hW hE
  have HH := Aside0.mk hW.h
  have HO := Aside0.mk hO
  have HEV := Aside0.mk hEv
  have HXQ := Aside0.mk hxq
  have HCK := Aside0.mk hck
  have HSF := Aside0.mk hsf
  have HSH := Aside0.mk hSH
  have HCQ := Aside0.mk hc
  clear hL hW hwf hE hk hO hEv hxq hx hck hsf hSH hc
  have c48 := fun (W : World) => inW_calls n 0 20000 W
  have c57 := fun (W : World) => timed_calls fr W
  by_cases g1 : st < 1
  · have fg1 : decide (st < 1) = true := decide_eq_true g1
    have fg1' : decide (1 > st) = true := decide_eq_true g1
    have e1 : errTr chs cks (i : Int) fr st n = 1 := tr_arg HEK.out (Or.inl g1)
    have e2 : trackL seed chs cks (i : Int) fr st n = [] := by unfold trackL; rw [e1, if_neg (by decide)]
    rw [e1, e2]
    clear e1 e2
    go_enter Tryd.func35, Tryd.ntmps35
    go_wp2_with fail
    obtain ⟨w1, hw1⟩ : ∃ w1, w.alloc (.cells #[.int .u64 seed, .slice Ah chs.length chc, .slice Ak cks.length ckc] 32) = w1 := ⟨_, rfl⟩
    try rw [hw1]
    have hB : Below w.heap.size w w1 := by rw [← hw1]; exact (Below.refl _ w).alloc (by first | exact Nat.le_refl _ | (simp; done) | (simp; omega)) _
    have kx : w1.heap[w.heap.size]? = some (.cells #[.int .u64 seed, .slice Ah chs.length chc, .slice Ak cks.length ckc] 32 (0, 0)) := by rw [← hw1]; exact al_new _ _ _ (by first | rfl | (simp; done) | (simp; omega))
    have x0 : w1.cell? ⟨w.heap.size, 0, none⟩ = some (.int .u64 seed) := blk_cell kx 0
    have x1 : w1.cell? ⟨w.heap.size, 1, none⟩ = some (.slice Ah chs.length chc) := blk_cell kx 1
    have x2 : w1.cell? ⟨w.heap.size, 2, none⟩ = some (.slice Ak cks.length ckc) := blk_cell kx 2
    clear kx
    replace hv := hv.trans (hB.mono hv.size)
    clear hB hw1
    refine (c47 _ hv).mono ?_
    rintro en w2 ⟨Ae, ce, rfl, hCe, hB⟩
    replace x0 := cell_on hB x0
    replace x1 := cell_on hB x1
    replace x2 := cell_on hB x2
    replace hv := hv.trans (hB.mono hv.size)
    clear hB c47 x0 x1 x2
    clear hCe HH
    go_wp2
    go_ret2
    exact ⟨none, 0, rfl, C_nil _ _, hv.alloc hv.size _⟩
  have fg1 : decide (st < 1) = false := decide_eq_false g1
  have fg1' : decide (1 > st) = false := decide_eq_false g1
  by_cases g2 : 0 ≤ n ∧ n ≤ 20000
  rotate_left
  · rw [show inW n 0 20000 = false by unfold inW; simp; omega] at c48
    have e1 : errTr chs cks (i : Int) fr st n = 1 := tr_arg HEK.out (Or.inr g2)
    have e2 : trackL seed chs cks (i : Int) fr st n = [] := by unfold trackL; rw [e1, if_neg (by decide)]
    rw [e1, e2]
    clear e1 e2
    go_enter Tryd.func35, Tryd.ntmps35
    go_wp2_with fail
    obtain ⟨w1, hw1⟩ : ∃ w1, w.alloc (.cells #[.int .u64 seed, .slice Ah chs.length chc, .slice Ak cks.length ckc] 32) = w1 := ⟨_, rfl⟩
    try rw [hw1]
    have hB : Below w.heap.size w w1 := by rw [← hw1]; exact (Below.refl _ w).alloc (by first | exact Nat.le_refl _ | (simp; done) | (simp; omega)) _
    have kx : w1.heap[w.heap.size]? = some (.cells #[.int .u64 seed, .slice Ah chs.length chc, .slice Ak cks.length ckc] 32 (0, 0)) := by rw [← hw1]; exact al_new _ _ _ (by first | rfl | (simp; done) | (simp; omega))
    have x0 : w1.cell? ⟨w.heap.size, 0, none⟩ = some (.int .u64 seed) := blk_cell kx 0
    have x1 : w1.cell? ⟨w.heap.size, 1, none⟩ = some (.slice Ah chs.length chc) := blk_cell kx 1
    have x2 : w1.cell? ⟨w.heap.size, 2, none⟩ = some (.slice Ak cks.length ckc) := blk_cell kx 2
    clear kx
    replace hv := hv.trans (hB.mono hv.size)
    clear hB hw1
    refine (c47 _ hv).mono ?_
    rintro en w2 ⟨Ae, ce, rfl, hCe, hB⟩
    replace x0 := cell_on hB x0
    replace x1 := cell_on hB x1
    replace x2 := cell_on hB x2
    replace hv := hv.trans (hB.mono hv.size)
    clear hB c47 x0 x1 x2
    clear hCe HH
    go_wp2_with fail
    obtain ⟨w3, hw3⟩ : ∃ w3, w2.alloc (.cells #[.int .i64 x.kd, .int .i64 x.ph, .int .i64 x.rt, .int .i64 x.dr, .int .i64 x.wh, .int .i64 x.wk, .int .i64 x.ht, .int .i64 x.ch, .slice Ae x.es.length ce, .int .u64 seed, .slice Ah chs.length chc, .slice Ak cks.length ckc, .int .i64 (i : Int)] 97) = w3 := ⟨_, rfl⟩
    try rw [hw3]
    have hB : Below w2.heap.size w2 w3 := by rw [← hw3]; exact (Below.refl _ w2).alloc (by first | exact Nat.le_refl _ | (simp; done) | (simp; omega)) _
    have ky : w3.heap[w2.heap.size]? = some (.cells #[.int .i64 x.kd, .int .i64 x.ph, .int .i64 x.rt, .int .i64 x.dr, .int .i64 x.wh, .int .i64 x.wk, .int .i64 x.ht, .int .i64 x.ch, .slice Ae x.es.length ce, .int .u64 seed, .slice Ah chs.length chc, .slice Ak cks.length ckc, .int .i64 (i : Int)] 97 (0, 0)) := by rw [← hw3]; exact al_new _ _ _ (by first | rfl | (simp; done) | (simp; omega))
    have y0 : w3.cell? ⟨w2.heap.size, 0, none⟩ = some (.int .i64 x.kd) := blk_cell ky 0
    have y1 : w3.cell? ⟨w2.heap.size, 1, none⟩ = some (.int .i64 x.ph) := blk_cell ky 1
    have y2 : w3.cell? ⟨w2.heap.size, 2, none⟩ = some (.int .i64 x.rt) := blk_cell ky 2
    have y3 : w3.cell? ⟨w2.heap.size, 3, none⟩ = some (.int .i64 x.dr) := blk_cell ky 3
    have y4 : w3.cell? ⟨w2.heap.size, 4, none⟩ = some (.int .i64 x.wh) := blk_cell ky 4
    have y5 : w3.cell? ⟨w2.heap.size, 5, none⟩ = some (.int .i64 x.wk) := blk_cell ky 5
    have y6 : w3.cell? ⟨w2.heap.size, 6, none⟩ = some (.int .i64 x.ht) := blk_cell ky 6
    have y7 : w3.cell? ⟨w2.heap.size, 7, none⟩ = some (.int .i64 x.ch) := blk_cell ky 7
    have y8 : w3.cell? ⟨w2.heap.size, 8, none⟩ = some (.slice Ae x.es.length ce) := blk_cell ky 8
    have y9 : w3.cell? ⟨w2.heap.size, 9, none⟩ = some (.int .u64 seed) := blk_cell ky 9
    have y10 : w3.cell? ⟨w2.heap.size, 10, none⟩ = some (.slice Ah chs.length chc) := blk_cell ky 10
    have y11 : w3.cell? ⟨w2.heap.size, 11, none⟩ = some (.slice Ak cks.length ckc) := blk_cell ky 11
    have y12 : w3.cell? ⟨w2.heap.size, 12, none⟩ = some (.int .i64 (i : Int)) := blk_cell ky 12
    clear ky
    replace hv := hv.trans (hB.mono hv.size)
    clear hB hw3
    clear y0 y1 y2 y3 y4 y5 y6 y7 y8 y9 y10 y11 y12
    refine (c48 _).mono ?_
    rintro en w4 ⟨rfl, hB⟩
    replace hv := hv.trans (hB.mono hv.size)
    clear hB c48
    go_wp2
    go_ret2
    exact ⟨none, 0, rfl, C_nil _ _, hv⟩
  rw [show inW n 0 20000 = true by unfold inW; simp; omega] at c48
  have hb : ¬ (st < 1 ∨ ¬ (0 ≤ n ∧ n ≤ 20000)) := by omega
  by_cases g3 : 0 ≤ fr ∧ fr ≤ 1000000
  rotate_left
  · rw [show timedF fr = 21 by unfold timedF; rw [if_neg g3]] at c57
    have e1 : errTr chs cks (i : Int) fr st n = 21 := tr_time HEK.out hb (Or.inl g3)
    have e2 : trackL seed chs cks (i : Int) fr st n = [] := by unfold trackL; rw [e1, if_neg (by decide)]
    rw [e1, e2]
    clear e1 e2
    go_enter Tryd.func35, Tryd.ntmps35
    go_wp2_with fail
    obtain ⟨w1, hw1⟩ : ∃ w1, w.alloc (.cells #[.int .u64 seed, .slice Ah chs.length chc, .slice Ak cks.length ckc] 32) = w1 := ⟨_, rfl⟩
    try rw [hw1]
    have hB : Below w.heap.size w w1 := by rw [← hw1]; exact (Below.refl _ w).alloc (by first | exact Nat.le_refl _ | (simp; done) | (simp; omega)) _
    have kx : w1.heap[w.heap.size]? = some (.cells #[.int .u64 seed, .slice Ah chs.length chc, .slice Ak cks.length ckc] 32 (0, 0)) := by rw [← hw1]; exact al_new _ _ _ (by first | rfl | (simp; done) | (simp; omega))
    have x0 : w1.cell? ⟨w.heap.size, 0, none⟩ = some (.int .u64 seed) := blk_cell kx 0
    have x1 : w1.cell? ⟨w.heap.size, 1, none⟩ = some (.slice Ah chs.length chc) := blk_cell kx 1
    have x2 : w1.cell? ⟨w.heap.size, 2, none⟩ = some (.slice Ak cks.length ckc) := blk_cell kx 2
    clear kx
    replace hv := hv.trans (hB.mono hv.size)
    clear hB hw1
    refine (c47 _ hv).mono ?_
    rintro en w2 ⟨Ae, ce, rfl, hCe, hB⟩
    replace x0 := cell_on hB x0
    replace x1 := cell_on hB x1
    replace x2 := cell_on hB x2
    replace hv := hv.trans (hB.mono hv.size)
    clear hB c47 x0 x1 x2
    clear hCe HH
    go_wp2_with fail
    obtain ⟨w3, hw3⟩ : ∃ w3, w2.alloc (.cells #[.int .i64 x.kd, .int .i64 x.ph, .int .i64 x.rt, .int .i64 x.dr, .int .i64 x.wh, .int .i64 x.wk, .int .i64 x.ht, .int .i64 x.ch, .slice Ae x.es.length ce, .int .u64 seed, .slice Ah chs.length chc, .slice Ak cks.length ckc, .int .i64 (i : Int)] 97) = w3 := ⟨_, rfl⟩
    try rw [hw3]
    have hB : Below w2.heap.size w2 w3 := by rw [← hw3]; exact (Below.refl _ w2).alloc (by first | exact Nat.le_refl _ | (simp; done) | (simp; omega)) _
    have ky : w3.heap[w2.heap.size]? = some (.cells #[.int .i64 x.kd, .int .i64 x.ph, .int .i64 x.rt, .int .i64 x.dr, .int .i64 x.wh, .int .i64 x.wk, .int .i64 x.ht, .int .i64 x.ch, .slice Ae x.es.length ce, .int .u64 seed, .slice Ah chs.length chc, .slice Ak cks.length ckc, .int .i64 (i : Int)] 97 (0, 0)) := by rw [← hw3]; exact al_new _ _ _ (by first | rfl | (simp; done) | (simp; omega))
    have y0 : w3.cell? ⟨w2.heap.size, 0, none⟩ = some (.int .i64 x.kd) := blk_cell ky 0
    have y1 : w3.cell? ⟨w2.heap.size, 1, none⟩ = some (.int .i64 x.ph) := blk_cell ky 1
    have y2 : w3.cell? ⟨w2.heap.size, 2, none⟩ = some (.int .i64 x.rt) := blk_cell ky 2
    have y3 : w3.cell? ⟨w2.heap.size, 3, none⟩ = some (.int .i64 x.dr) := blk_cell ky 3
    have y4 : w3.cell? ⟨w2.heap.size, 4, none⟩ = some (.int .i64 x.wh) := blk_cell ky 4
    have y5 : w3.cell? ⟨w2.heap.size, 5, none⟩ = some (.int .i64 x.wk) := blk_cell ky 5
    have y6 : w3.cell? ⟨w2.heap.size, 6, none⟩ = some (.int .i64 x.ht) := blk_cell ky 6
    have y7 : w3.cell? ⟨w2.heap.size, 7, none⟩ = some (.int .i64 x.ch) := blk_cell ky 7
    have y8 : w3.cell? ⟨w2.heap.size, 8, none⟩ = some (.slice Ae x.es.length ce) := blk_cell ky 8
    have y9 : w3.cell? ⟨w2.heap.size, 9, none⟩ = some (.int .u64 seed) := blk_cell ky 9
    have y10 : w3.cell? ⟨w2.heap.size, 10, none⟩ = some (.slice Ah chs.length chc) := blk_cell ky 10
    have y11 : w3.cell? ⟨w2.heap.size, 11, none⟩ = some (.slice Ak cks.length ckc) := blk_cell ky 11
    have y12 : w3.cell? ⟨w2.heap.size, 12, none⟩ = some (.int .i64 (i : Int)) := blk_cell ky 12
    clear ky
    replace hv := hv.trans (hB.mono hv.size)
    clear hB hw3
    clear y0 y1 y2 y3 y4 y5 y6 y7 y8 y9 y10 y11 y12
    refine (c48 _).mono ?_
    rintro en w4 ⟨rfl, hB⟩
    replace hv := hv.trans (hB.mono hv.size)
    clear hB c48
    go_wp2_with fail
    refine (c57 _).mono ?_
    rintro en w5 ⟨rfl, hB⟩
    replace hv := hv.trans (hB.mono hv.size)
    clear hB c57
    go_wp2
    go_ret2
    exact ⟨none, 0, rfl, C_nil _ _, hv⟩
  rw [show timedF fr = 0 by unfold timedF; rw [if_pos g3]] at c57
  have u1 : IntKind.i64.wrap (1000000 - fr) = 1000000 - fr := C.wr _ (by omega) (by omega)
  have u2 : IntKind.i64.wrap (n - 1) = n - 1 := C.wr _ (by omega) (by omega)
  obtain ⟨Q, hQ⟩ : ∃ z, (1000000 - fr) / (n - 1) = z := ⟨_, rfl⟩
  have HQB : 1 < n → 0 ≤ Q ∧ Q ≤ 1000000 := fun h => by rw [← hQ]; exact ⟨Int.ediv_nonneg (by omega) (by omega), Int.le_trans (Int.ediv_le_self _ (by omega)) (by omega)⟩
  have u3 : 1 < n → IntKind.i64.wrap ((1000000 - fr).tdiv (n - 1)) = Q := fun h => by rw [Int.tdiv_eq_ediv_of_nonneg (by omega), hQ]; exact C.wr _ (by have := HQB h; omega) (by have := HQB h; omega)
  by_cases g5 : 1 < n ∧ 1000000 - fr < (n - 1) * st
  · have g6 : Q < st := by rw [← hQ]; exact (tr_quo g3 g5.1).2 g5.2
    have f4 : decide (n > 1) = true := decide_eq_true g5.1
    have f4' : decide (1 < n) = true := decide_eq_true g5.1
    have f5 : decide (st > Q) = true := decide_eq_true g6
    have f5' : decide (Q < st) = true := decide_eq_true g6
    have u4 := u3 g5.1
    have u5 : ¬ n - 1 = 0 := by omega
    clear u3 HQB hQ
    have e1 : errTr chs cks (i : Int) fr st n = 21 := tr_time HEK.out hb (Or.inr g5)
    have e2 : trackL seed chs cks (i : Int) fr st n = [] := by unfold trackL; rw [e1, if_neg (by decide)]
    rw [e1, e2]
    clear e1 e2
    go_enter Tryd.func35, Tryd.ntmps35
    go_wp2_with fail
    obtain ⟨w1, hw1⟩ : ∃ w1, w.alloc (.cells #[.int .u64 seed, .slice Ah chs.length chc, .slice Ak cks.length ckc] 32) = w1 := ⟨_, rfl⟩
    try rw [hw1]
    have hB : Below w.heap.size w w1 := by rw [← hw1]; exact (Below.refl _ w).alloc (by first | exact Nat.le_refl _ | (simp; done) | (simp; omega)) _
    have kx : w1.heap[w.heap.size]? = some (.cells #[.int .u64 seed, .slice Ah chs.length chc, .slice Ak cks.length ckc] 32 (0, 0)) := by rw [← hw1]; exact al_new _ _ _ (by first | rfl | (simp; done) | (simp; omega))
    have x0 : w1.cell? ⟨w.heap.size, 0, none⟩ = some (.int .u64 seed) := blk_cell kx 0
    have x1 : w1.cell? ⟨w.heap.size, 1, none⟩ = some (.slice Ah chs.length chc) := blk_cell kx 1
    have x2 : w1.cell? ⟨w.heap.size, 2, none⟩ = some (.slice Ak cks.length ckc) := blk_cell kx 2
    clear kx
    replace hv := hv.trans (hB.mono hv.size)
    clear hB hw1
    refine (c47 _ hv).mono ?_
    rintro en w2 ⟨Ae, ce, rfl, hCe, hB⟩
    replace x0 := cell_on hB x0
    replace x1 := cell_on hB x1
    replace x2 := cell_on hB x2
    replace hv := hv.trans (hB.mono hv.size)
    clear hB c47 x0 x1 x2
    clear hCe HH
    go_wp2_with fail
    obtain ⟨w3, hw3⟩ : ∃ w3, w2.alloc (.cells #[.int .i64 x.kd, .int .i64 x.ph, .int .i64 x.rt, .int .i64 x.dr, .int .i64 x.wh, .int .i64 x.wk, .int .i64 x.ht, .int .i64 x.ch, .slice Ae x.es.length ce, .int .u64 seed, .slice Ah chs.length chc, .slice Ak cks.length ckc, .int .i64 (i : Int)] 97) = w3 := ⟨_, rfl⟩
    try rw [hw3]
    have hB : Below w2.heap.size w2 w3 := by rw [← hw3]; exact (Below.refl _ w2).alloc (by first | exact Nat.le_refl _ | (simp; done) | (simp; omega)) _
    have ky : w3.heap[w2.heap.size]? = some (.cells #[.int .i64 x.kd, .int .i64 x.ph, .int .i64 x.rt, .int .i64 x.dr, .int .i64 x.wh, .int .i64 x.wk, .int .i64 x.ht, .int .i64 x.ch, .slice Ae x.es.length ce, .int .u64 seed, .slice Ah chs.length chc, .slice Ak cks.length ckc, .int .i64 (i : Int)] 97 (0, 0)) := by rw [← hw3]; exact al_new _ _ _ (by first | rfl | (simp; done) | (simp; omega))
    have y0 : w3.cell? ⟨w2.heap.size, 0, none⟩ = some (.int .i64 x.kd) := blk_cell ky 0
    have y1 : w3.cell? ⟨w2.heap.size, 1, none⟩ = some (.int .i64 x.ph) := blk_cell ky 1
    have y2 : w3.cell? ⟨w2.heap.size, 2, none⟩ = some (.int .i64 x.rt) := blk_cell ky 2
    have y3 : w3.cell? ⟨w2.heap.size, 3, none⟩ = some (.int .i64 x.dr) := blk_cell ky 3
    have y4 : w3.cell? ⟨w2.heap.size, 4, none⟩ = some (.int .i64 x.wh) := blk_cell ky 4
    have y5 : w3.cell? ⟨w2.heap.size, 5, none⟩ = some (.int .i64 x.wk) := blk_cell ky 5
    have y6 : w3.cell? ⟨w2.heap.size, 6, none⟩ = some (.int .i64 x.ht) := blk_cell ky 6
    have y7 : w3.cell? ⟨w2.heap.size, 7, none⟩ = some (.int .i64 x.ch) := blk_cell ky 7
    have y8 : w3.cell? ⟨w2.heap.size, 8, none⟩ = some (.slice Ae x.es.length ce) := blk_cell ky 8
    have y9 : w3.cell? ⟨w2.heap.size, 9, none⟩ = some (.int .u64 seed) := blk_cell ky 9
    have y10 : w3.cell? ⟨w2.heap.size, 10, none⟩ = some (.slice Ah chs.length chc) := blk_cell ky 10
    have y11 : w3.cell? ⟨w2.heap.size, 11, none⟩ = some (.slice Ak cks.length ckc) := blk_cell ky 11
    have y12 : w3.cell? ⟨w2.heap.size, 12, none⟩ = some (.int .i64 (i : Int)) := blk_cell ky 12
    clear ky
    replace hv := hv.trans (hB.mono hv.size)
    clear hB hw3
    clear y0 y1 y2 y3 y4 y5 y6 y7 y8 y9 y10 y11 y12
    refine (c48 _).mono ?_
    rintro en w4 ⟨rfl, hB⟩
    replace hv := hv.trans (hB.mono hv.size)
    clear hB c48
    go_wp2_with fail
    refine (c57 _).mono ?_
    rintro en w5 ⟨rfl, hB⟩
    replace hv := hv.trans (hB.mono hv.size)
    clear hB c57
    go_wp2
    go_ret2
    exact ⟨none, 0, rfl, C_nil _ _, hv⟩
  obtain ⟨N, rfl⟩ : ∃ N : Nat, n = N := ⟨n.toNat, by omega⟩
  have HAT := Aside0.mk (fun (j : Nat) (hj : j < N) => tr_at (fr := fr) (st := st) (n := (N : Int)) (by omega) g3 g5 (j := j) (by omega))
  have hb2 : ¬ (¬ (0 ≤ fr ∧ fr ≤ 1000000) ∨ (1 < (N : Int) ∧ 1000000 - fr < ((N : Int) - 1) * st)) := by rintro (h | h); (exact h g3); (exact g5 h)
  have HTR := Aside0.mk (tr_run HEK.out hb hb2)
  have HST1 := Aside0.mk (show 1 ≤ st by omega)
  have HFR := Aside0.mk g3
  have HN2 := Aside0.mk (show N ≤ 20000 by omega)
  have hd : 1 < (N : Int) → st ≤ Q := fun h => by
    rcases Int.lt_or_le Q st with h2 | h2
    · rw [← hQ] at h2; exact absurd ⟨h, (tr_quo g3 h).1 h2⟩ g5
    · exact h2
  obtain ⟨i3, hi3, hi30, hi31, hi32⟩ := info_parts info3n
  clear hb hb2 hQ HQB
  go_enter Tryd.func35, Tryd.ntmps35
  go_wp2_with fail
  obtain ⟨w1, hw1⟩ : ∃ w1, w.alloc (.cells #[.int .u64 seed, .slice Ah chs.length chc, .slice Ak cks.length ckc] 32) = w1 := ⟨_, rfl⟩
  try rw [hw1]
  have hB : Below w.heap.size w w1 := by rw [← hw1]; exact (Below.refl _ w).alloc (by first | exact Nat.le_refl _ | (simp; done) | (simp; omega)) _
  have kx : w1.heap[w.heap.size]? = some (.cells #[.int .u64 seed, .slice Ah chs.length chc, .slice Ak cks.length ckc] 32 (0, 0)) := by rw [← hw1]; exact al_new _ _ _ (by first | rfl | (simp; done) | (simp; omega))
  have x0 : w1.cell? ⟨w.heap.size, 0, none⟩ = some (.int .u64 seed) := blk_cell kx 0
  have x1 : w1.cell? ⟨w.heap.size, 1, none⟩ = some (.slice Ah chs.length chc) := blk_cell kx 1
  have x2 : w1.cell? ⟨w.heap.size, 2, none⟩ = some (.slice Ak cks.length ckc) := blk_cell kx 2
  clear kx
  replace hv := hv.trans (hB.mono hv.size)
  clear hB hw1
  refine (c47 _ hv).mono ?_
  rintro en w2 ⟨Ae, ce, rfl, hCe, hB⟩
  replace x0 := cell_on hB x0
  replace x1 := cell_on hB x1
  replace x2 := cell_on hB x2
  replace hv := hv.trans (hB.mono hv.size)
  clear hB c47 x0 x1 x2
  have hv2 := Aside0.mk hv
  go_upto_block 0 with fail
  obtain ⟨w3, hw3⟩ : ∃ w3, w2.alloc (.cells #[.int .i64 x.kd, .int .i64 x.ph, .int .i64 x.rt, .int .i64 x.dr, .int .i64 x.wh, .int .i64 x.wk, .int .i64 x.ht, .int .i64 x.ch, .slice Ae x.es.length ce, .int .u64 seed, .slice Ah chs.length chc, .slice Ak cks.length ckc, .int .i64 (i : Int)] 97) = w3 := ⟨_, rfl⟩
  try rw [hw3]
  have hB : Below w2.heap.size w2 w3 := by rw [← hw3]; exact (Below.refl _ w2).alloc (by first | exact Nat.le_refl _ | (simp; done) | (simp; omega)) _
  have ky : w3.heap[w2.heap.size]? = some (.cells #[.int .i64 x.kd, .int .i64 x.ph, .int .i64 x.rt, .int .i64 x.dr, .int .i64 x.wh, .int .i64 x.wk, .int .i64 x.ht, .int .i64 x.ch, .slice Ae x.es.length ce, .int .u64 seed, .slice Ah chs.length chc, .slice Ak cks.length ckc, .int .i64 (i : Int)] 97 (0, 0)) := by rw [← hw3]; exact al_new _ _ _ (by first | rfl | (simp; done) | (simp; omega))
  have y0 : w3.cell? ⟨w2.heap.size, 0, none⟩ = some (.int .i64 x.kd) := blk_cell ky 0
  have y1 : w3.cell? ⟨w2.heap.size, 1, none⟩ = some (.int .i64 x.ph) := blk_cell ky 1
  have y2 : w3.cell? ⟨w2.heap.size, 2, none⟩ = some (.int .i64 x.rt) := blk_cell ky 2
  have y3 : w3.cell? ⟨w2.heap.size, 3, none⟩ = some (.int .i64 x.dr) := blk_cell ky 3
  have y4 : w3.cell? ⟨w2.heap.size, 4, none⟩ = some (.int .i64 x.wh) := blk_cell ky 4
  have y5 : w3.cell? ⟨w2.heap.size, 5, none⟩ = some (.int .i64 x.wk) := blk_cell ky 5
  have y6 : w3.cell? ⟨w2.heap.size, 6, none⟩ = some (.int .i64 x.ht) := blk_cell ky 6
  have y7 : w3.cell? ⟨w2.heap.size, 7, none⟩ = some (.int .i64 x.ch) := blk_cell ky 7
  have y8 : w3.cell? ⟨w2.heap.size, 8, none⟩ = some (.slice Ae x.es.length ce) := blk_cell ky 8
  have y9 : w3.cell? ⟨w2.heap.size, 9, none⟩ = some (.int .u64 seed) := blk_cell ky 9
  have y10 : w3.cell? ⟨w2.heap.size, 10, none⟩ = some (.slice Ah chs.length chc) := blk_cell ky 10
  have y11 : w3.cell? ⟨w2.heap.size, 11, none⟩ = some (.slice Ak cks.length ckc) := blk_cell ky 11
  have y12 : w3.cell? ⟨w2.heap.size, 12, none⟩ = some (.int .i64 (i : Int)) := blk_cell ky 12
  replace hv := hv.trans (hB.mono hv.size)
  clear hB hw3
  have HKY := Aside0.mk ky
  have HV := Aside0.mk hv
  have hw := Below.refl w3.heap.size w3
  clear hv ky y0 y1 y2 y3 y4 y5 y6 y7 y8 y9 y10 y11 y12
  go_cut [] from 19 to 54 (fun wx => Aside0 (Below w3.heap.size w3 wx))
  case first =>
    by_cases g6 : 1 < (N : Int)
    · have f4 : decide ((N : Int) > 1) = true := decide_eq_true g6
      have f4' : decide (1 < (N : Int)) = true := decide_eq_true g6
      have f5 : decide (st > Q) = false := decide_eq_false (by have := hd g6; omega)
      have f5' : decide (Q < st) = false := decide_eq_false (by have := hd g6; omega)
      have u4 := u3 g6
      have u5 : ¬ (N : Int) - 1 = 0 := by omega
      clear u3 hd
      go_wp2_with fail
      refine (c48 _).mono ?_
      rintro en w4 ⟨rfl, hB⟩
      replace hw := hw.trans (hB.mono hw.size)
      clear hB c48
      go_wp2_with fail
      refine (c57 _).mono ?_
      rintro en w5 ⟨rfl, hB⟩
      replace hw := hw.trans (hB.mono hw.size)
      clear hB c57
      go_wp2
      go_meet
      exact ⟨hw⟩
    · have f4 : decide ((N : Int) > 1) = false := decide_eq_false g6
      have f4' : decide (1 < (N : Int)) = false := decide_eq_false g6
      clear u3 hd
      go_wp2_with fail
      refine (c48 _).mono ?_
      rintro en w4 ⟨rfl, hB⟩
      replace hw := hw.trans (hB.mono hw.size)
      clear hB c48
      go_wp2_with fail
      refine (c57 _).mono ?_
      rintro en w5 ⟨rfl, hB⟩
      replace hw := hw.trans (hB.mono hw.size)
      clear hB c57
      go_wp2
      go_meet
      exact ⟨hw⟩
  case rest =>
  have HBX := hcut
  clear hcut hw c48 c57 u1 u2 u3 hd fg1 fg1' g1 g2 g3 g5
  rename World => wx
  have HC3 := Aside0.mk hCe
  clear hCe
  go_wp2
  go_loopw [55, 14, 15, 16] (fun v55 v14 v15 v16 wr => ∃ j : Nat, j ≤ N ∧ v55 = .int .i64 j ∧ v15 = .int .i64 (walkedF seed i x.wk 0 (lastS fr st j)) ∧ v16 = .int .i64 (lastS fr st j) ∧ Aside0 (Below w3.heap.size w3 wr) ∧ Aside0 (wr.ownsRow wx.heap.size 3 1 v14 j (icells (trackV seed chs cks i fr st j))) ∧ Aside0 (∀ m : Nat, m < j → runsF x.es (fr + (m : Int) * st) = true) ∧ Aside0 (wx.heap.size ≤ wr.heap.size)) (fun v _ _ _ _ => N - (intOf v).toNat)
  case atStart => exact ⟨0, Nat.zero_le _, rfl, by simp [lastS, walked_00], rfl, HBX, ⟨own_nil _ _ _ _⟩, ⟨fun m h => by omega⟩, ⟨Nat.le_refl _⟩⟩
  case round =>
    obtain ⟨j, hj, rfl, rfl, rfl, HB, HOW, HRU, HSZ⟩ := hrel
    have ky := blk_on HB.out HKY.out
    have y0 : wr.cell? ⟨w2.heap.size, 0, none⟩ = some (.int .i64 x.kd) := blk_cell ky 0
    have y1 : wr.cell? ⟨w2.heap.size, 1, none⟩ = some (.int .i64 x.ph) := blk_cell ky 1
    have y2 : wr.cell? ⟨w2.heap.size, 2, none⟩ = some (.int .i64 x.rt) := blk_cell ky 2
    have y3 : wr.cell? ⟨w2.heap.size, 3, none⟩ = some (.int .i64 x.dr) := blk_cell ky 3
    have y4 : wr.cell? ⟨w2.heap.size, 4, none⟩ = some (.int .i64 x.wh) := blk_cell ky 4
    have y5 : wr.cell? ⟨w2.heap.size, 5, none⟩ = some (.int .i64 x.wk) := blk_cell ky 5
    have y6 : wr.cell? ⟨w2.heap.size, 6, none⟩ = some (.int .i64 x.ht) := blk_cell ky 6
    have y7 : wr.cell? ⟨w2.heap.size, 7, none⟩ = some (.int .i64 x.ch) := blk_cell ky 7
    have y8 : wr.cell? ⟨w2.heap.size, 8, none⟩ = some (.slice Ae x.es.length ce) := blk_cell ky 8
    have y9 : wr.cell? ⟨w2.heap.size, 9, none⟩ = some (.int .u64 seed) := blk_cell ky 9
    have y10 : wr.cell? ⟨w2.heap.size, 10, none⟩ = some (.slice Ah chs.length chc) := blk_cell ky 10
    have y11 : wr.cell? ⟨w2.heap.size, 11, none⟩ = some (.slice Ak cks.length ckc) := blk_cell ky 11
    have y12 : wr.cell? ⟨w2.heap.size, 12, none⟩ = some (.int .i64 (i : Int)) := blk_cell ky 12
    clear ky
    have HV2 := Aside0.mk (HV.out.trans (HB.out.mono HV.out.size))
    have hlt9 : w2.heap.size < wr.heap.size := World.block_lt_of_cell? _ _ y0
    by_cases hlt : j < N
    rotate_left
    · have d1 : ¬ (j : Int) < (N : Int) := by omega
      obtain rfl : j = N := by omega
      have HALL : Aside0 (errTr chs cks i fr st (j : Int) = 0) := ⟨by rw [HTR.out, if_pos]; rw [List.all_eq_true]; intro m hm; rw [HCK.out]; exact HRU.out m (by simpa using hm)⟩
      have HL : Aside0 (trackL seed chs cks i fr st (j : Int) = trackV seed chs cks i fr st j) := ⟨by unfold trackL; rw [if_pos HALL.out, Int.toNat_natCast]⟩
      obtain ⟨A, c, rfl, hCI⟩ := own_I (l := trackV seed chs cks i fr st j) (by rw [trackV_len]; exact HOW.out)
      have HCI := Aside0.mk hCI
      have HLN := Aside0.mk (trackV_len seed chs cks i fr st j)
      clear hCI hlt HOW y0 y1 y2 y3 y4 y5 y6 y7 y8 y9 y10 y11 y12
      generalize (trackV seed chs cks i fr st j).length = len at *
      go_wp2
      go_ret2
      exact ⟨A, ⟨c, by rw [HALL.out, HL.out, trackV_len, HLN.out]; rfl⟩, by rw [HL.out]; have := HCI.out; rw [trackV_len]; rwa [HLN.out] at this, HV2.out⟩
    · have d1 : (j : Int) < (N : Int) := by omega
      have hat := HAT.out j hlt
      have hst1 := HST1.out
      have hfr := HFR.out
      have hLS : 0 ≤ lastS fr st j ∧ lastS fr st j ≤ fr + (j : Int) * st := by
        cases j with
        | zero => simp [lastS]; omega
        | succ m => simp only [lastS]; have := HAT.out m (by omega); push_cast; rw [Int.add_mul]; omega
      have HLS1 : Aside0 (lastS fr st (j + 1) = fr + (j : Int) * st) := ⟨rfl⟩
      have HNX := Aside0.mk (trackV_next seed chs cks i fr st j)
      have hshf := HSF.out (fr + (j : Int) * st)
      obtain ⟨p, hp⟩ : ∃ p, (j : Int) * st = p := ⟨_, rfl⟩
      have m1 : IntKind.i64.wrap ((j : Int) * st) = p := by rw [hp]; exact C.wr _ (by omega) (by omega)
      rw [hp] at hat hLS HLS1 HNX hshf
      obtain ⟨s, hs⟩ : ∃ s, fr + p = s := ⟨_, rfl⟩
      have m2 : IntKind.i64.wrap (fr + p) = s := by rw [hs]; exact C.wr _ (by omega) (by omega)
      rw [hs] at hat hLS HLS1 HNX hshf
      have hs0 : 0 ≤ s ∧ s ≤ 1000000 := by omega
      have HPS := Aside0.mk (show fr + (j : Int) * st = s by rw [hp, hs])
      have hC3 := Kd.C_below HC3.out HV2.out
      have c54 := fun (W : World) (hB : Below wr.heap.size wr W) => runs_calls x Ae ce seed (.slice Ah chs.length chc) (.slice Ak cks.length ckc) (i : Int) s W (Kd.C_below hC3 hB) HEV.out.what
      obtain ⟨r, hr⟩ : ∃ r, runsF x.es s = r := ⟨_, rfl⟩
      rw [hr] at c54
      have HR := Aside0.mk hr
      clear hr
      cases r
      · have HALL : Aside0 (errTr chs cks i fr st (N : Int) = 22) := ⟨by
          rw [HTR.out, if_neg]
          intro h
          rw [List.all_eq_true] at h
          have := h j (by simpa using hlt)
          rw [HCK.out, HPS.out, HR.out] at this
          cases this⟩
        have HL : Aside0 (trackL seed chs cks i fr st (N : Int) = []) := ⟨by unfold trackL; rw [HALL.out, if_neg (by decide)]⟩
        clear hp hs hat hLS hshf hst1 hfr hs0 hC3
        go_wp2_with fail
        refine (c54 _ (Below.refl _ _)).mono ?_
        rintro en w6 ⟨rfl, hB⟩
        have HV6 := Aside0.mk (HV2.out.trans (hB.mono HV2.out.size))
        clear hB c54 y0 y1 y2 y3 y4 y5 y6 y7 y8 y9 y10 y11 y12
        go_wp2
        go_ret2
        exact ⟨none, 0, by rw [HALL.out, HL.out]; rfl, by rw [HL.out]; exact C_nil _ _, HV6.out⟩
      · have hwk := HO.out.wk.1
        have hwk2 := (rt_b HO.out).2.2.2
        have hwh := HO.out.wh.1
        have hwh2 := (rt_b HO.out).2.2.1
        have hst := still_b HO.out HEV.out HCQ.out hs0
        have hwb := walked_b (seed := seed) (k := (i : Int)) (fr := 0) HO.out (Int.le_refl 0) hs0
        have hdr := drawF_range seed 2 (i : Int) s x.wh hwh
        have hadd := walked_add (seed := seed) (k := (i : Int)) (wk := x.wk) hLS.1 hLS.2
        have c52 := fun (W : World) => walked_calls x.kd x.ph x.rt x.dr x.wh x.wk x.ht x.ch (.slice Ae x.es.length ce) seed (.slice Ah chs.length chc) (.slice Ak cks.length ckc) (i : Int) (lastS fr st j) s W ⟨hLS.1, by omega⟩ hs0 hik ⟨hwk, by omega⟩
        have c53 := fun (W : World) => white_calls x Ae ce seed (.slice Ah chs.length chc) (.slice Ak cks.length ckc) (i : Int) s W hik (by omega) ⟨hwh, by omega⟩
        have c51 := fun (W : World) (hB : Below wr.heap.size wr W) => still_calls x Ae ce seed Ah chc (.slice Ak cks.length ckc) (i : Int) s chs q hq W HXQ.out (Kd.C_below hC3 hB) (Kd.C_below HH.out (HV2.out.trans (hB.mono HV2.out.size))) chs.length HO.out HEV.out HCQ.out hs0
        obtain ⟨SV, hSV⟩ : ∃ v, stillF x chs[q] s = v := ⟨_, rfl⟩
        obtain ⟨DV, hDV⟩ : ∃ v, drawF seed 2 (i : Int) s x.wh = v := ⟨_, rfl⟩
        obtain ⟨WA, hWA⟩ : ∃ v, walkedF seed i x.wk 0 (lastS fr st j) = v := ⟨_, rfl⟩
        obtain ⟨WB, hWB⟩ : ∃ v, walkedF seed i x.wk (lastS fr st j) s = v := ⟨_, rfl⟩
        obtain ⟨WS, hWS⟩ : ∃ v, walkedF seed i x.wk 0 s = v := ⟨_, rfl⟩
        rw [hSV] at hst c51 hshf
        rw [hDV] at hdr c53 hshf
        rw [hWS] at hwb hadd hshf
        rw [hWA, hWB] at hadd
        rw [hWB] at c52
        rw [hWA]
        rw [hshf] at HNX
        have HWS := Aside0.mk hWS
        have e3 : IntKind.i64.wrap (WA + WB) = WS := by rw [hadd]; exact C.wr _ (by omega) (by omega)
        have e4 : IntKind.i64.wrap (SV + WS) = SV + WS := C.wr _ (by omega) (by omega)
        have e5 : IntKind.i64.wrap (SV + WS + DV) = SV + WS + DV := C.wr _ (by omega) (by omega)
        have HSZ3 := Aside0.mk (show j ≤ 20000 by have := HN2.out; omega)
        clear hp hs hat hLS hshf hst1 hfr hs0 hC3 hSV hDV hWA hWB hWS hadd hst hwb hdr hwk hwk2 hwh hwh2
        go_wp2_with fail
        refine (c54 _ (Below.refl _ _)).mono ?_
        rintro en w6 ⟨rfl, hB⟩
        have hB6 := hB
        replace y0 := cell_on hB y0
        replace y1 := cell_on hB y1
        replace y2 := cell_on hB y2
        replace y3 := cell_on hB y3
        replace y4 := cell_on hB y4
        replace y5 := cell_on hB y5
        replace y6 := cell_on hB y6
        replace y7 := cell_on hB y7
        replace y8 := cell_on hB y8
        replace y9 := cell_on hB y9
        replace y10 := cell_on hB y10
        replace y11 := cell_on hB y11
        replace y12 := cell_on hB y12
        clear hB c54
        go_wp2_with fail
        refine (c52 _).mono ?_
        rintro en w7 ⟨rfl, hB⟩
        have hB7 := hB6.trans (hB.mono hB6.size)
        replace y0 := cell_on hB y0
        replace y1 := cell_on hB y1
        replace y2 := cell_on hB y2
        replace y3 := cell_on hB y3
        replace y4 := cell_on hB y4
        replace y5 := cell_on hB y5
        replace y6 := cell_on hB y6
        replace y7 := cell_on hB y7
        replace y8 := cell_on hB y8
        replace y9 := cell_on hB y9
        replace y10 := cell_on hB y10
        replace y11 := cell_on hB y11
        replace y12 := cell_on hB y12
        clear hB c52 hB6
        have HB7 := Aside0.mk (HB.out.trans (hB7.mono HB.out.size))
        have HOW7 := Aside0.mk (own_move (w1 := w7) HOW.out (fun k hk => hB7.block k (own_lt HOW.out k hk)))
        have HSZ7 := Aside0.mk (show wx.heap.size ≤ w7.heap.size by have := HSZ.out; have := hB7.size; omega)
        have b51 := fun (W : World) (hB : Below w7.heap.size w7 W) => c51 W (hB7.trans (hB.mono hB7.size))
        clear c51
        go_upto_region 18 with fail
        have hSS : ∀ w', Below w3.heap.size w3 w' → ((w'.cell? ⟨w2.heap.size, 0, none⟩ = some (.int .i64 x.kd) ∧ w'.cell? ⟨w2.heap.size, 1, none⟩ = some (.int .i64 x.ph) ∧ w'.cell? ⟨w2.heap.size, 2, none⟩ = some (.int .i64 x.rt) ∧ w'.cell? ⟨w2.heap.size, 3, none⟩ = some (.int .i64 x.dr) ∧ w'.cell? ⟨w2.heap.size, 4, none⟩ = some (.int .i64 x.wh) ∧ w'.cell? ⟨w2.heap.size, 5, none⟩ = some (.int .i64 x.wk) ∧ w'.cell? ⟨w2.heap.size, 6, none⟩ = some (.int .i64 x.ht) ∧ w'.cell? ⟨w2.heap.size, 7, none⟩ = some (.int .i64 x.ch) ∧ w'.cell? ⟨w2.heap.size, 8, none⟩ = some (.slice Ae x.es.length ce) ∧ w'.cell? ⟨w2.heap.size, 9, none⟩ = some (.int .u64 seed) ∧ w'.cell? ⟨w2.heap.size, 10, none⟩ = some (.slice Ah chs.length chc) ∧ w'.cell? ⟨w2.heap.size, 11, none⟩ = some (.slice Ak cks.length ckc) ∧ w'.cell? ⟨w2.heap.size, 12, none⟩ = some (.int .i64 (i : Int))) ∧ Below w3.heap.size w3 w') := fun w' hB => by
          have ky := blk_on hB HKY.out
          exact ⟨⟨blk_cell ky 0, blk_cell ky 1, blk_cell ky 2, blk_cell ky 3, blk_cell ky 4, blk_cell ky 5, blk_cell ky 6, blk_cell ky 7, blk_cell ky 8, blk_cell ky 9, blk_cell ky 10, blk_cell ky 11, blk_cell ky 12⟩, hB⟩
        have hv9 := HB7.out
        have hwr : Below w7.heap.size w7 w7.drew := (Below.refl _ _).drew
        have hv9d : Below w3.heap.size w3 w7.drew := hv9.drew
        go_region_held3 (fun w' => (w'.cell? ⟨w2.heap.size, 0, none⟩ = some (.int .i64 x.kd) ∧ w'.cell? ⟨w2.heap.size, 1, none⟩ = some (.int .i64 x.ph) ∧ w'.cell? ⟨w2.heap.size, 2, none⟩ = some (.int .i64 x.rt) ∧ w'.cell? ⟨w2.heap.size, 3, none⟩ = some (.int .i64 x.dr) ∧ w'.cell? ⟨w2.heap.size, 4, none⟩ = some (.int .i64 x.wh) ∧ w'.cell? ⟨w2.heap.size, 5, none⟩ = some (.int .i64 x.wk) ∧ w'.cell? ⟨w2.heap.size, 6, none⟩ = some (.int .i64 x.ht) ∧ w'.cell? ⟨w2.heap.size, 7, none⟩ = some (.int .i64 x.ch) ∧ w'.cell? ⟨w2.heap.size, 8, none⟩ = some (.slice Ae x.es.length ce) ∧ w'.cell? ⟨w2.heap.size, 9, none⟩ = some (.int .u64 seed) ∧ w'.cell? ⟨w2.heap.size, 10, none⟩ = some (.slice Ah chs.length chc) ∧ w'.cell? ⟨w2.heap.size, 11, none⟩ = some (.slice Ak cks.length ckc) ∧ w'.cell? ⟨w2.heap.size, 12, none⟩ = some (.int .i64 (i : Int))) ∧ Below w3.heap.size w3 w') (first | with_reducible exact hSS _ hv9d | assumption | (have hh := ‹(_ ∧ _ ∧ _ ∧ _ ∧ _ ∧ _ ∧ _ ∧ _ ∧ _ ∧ _ ∧ _ ∧ _ ∧ _) ∧ Below w3.heap.size w3 _›; with_reducible exact hSS _ (hh.2.trans (hB.mono hh.2.size))) | (have hh := ‹(_ ∧ _ ∧ _ ∧ _ ∧ _ ∧ _ ∧ _ ∧ _ ∧ _ ∧ _ ∧ _ ∧ _ ∧ _) ∧ Below w3.heap.size w3 _›; exact hSS _ (hh.2.alloc hh.2.size _)) | exact hSS _ hvF)
          (first | (go_at_call 51; with_reducible refine (b51 _ hwr).mono ?_; rintro e w' ⟨rfl, hB⟩; replace hwr := hwr.trans (hB.mono hwr.size)) | (go_at_call 53; with_reducible refine (c53 _).mono ?_; rintro e w' ⟨rfl, hB⟩; replace hwr := hwr.trans (hB.mono hwr.size)) | (refine step_append_own rfl (.tmp 74) (.tmp 84) 76 rfl wx.heap.size 3 i3 (.int .i64 0) 1 8 Tryd.underlying76 hi3 hi30 hi31 hi32 rfl (by decide) u14 j (icells (trackV seed chs cks i fr st j)) (by simp [Act.eval, Act.put]) (own_move HOW7.out (fun k hk => (Below.heap_alloc _ _ k (by have h1 := own_lt HOW7.out k hk; have h2 := hwr.size; omega)).trans (hwr.block k (own_lt HOW7.out k hk)))) _ 1 1 [.int .i64 (SV + WS + DV)] (by first | (simp [Act.eval, Act.put]; done) | (simp [Act.eval, Act.put]; rfl)) rfl (World.news_of_block (cs := #[.int .i64 (SV + WS + DV)]) (t := 3) (fr := (0, 0)) (al_new _ _ _ rfl)) (by simp [Value.oneCell']) (by have := HSZ3.out; unfold maxLen; omega) (by have := HSZ3.out; omega) (by have h1 := HSZ7.out; have h2 := hwr.size; simp; omega) ?_; intro v' wz hown1 hgrow1; have hvF : Below w3.heap.size w3 wz := ((hv9.trans (hwr.mono hv9.size)).alloc (hv9.trans (hwr.mono hv9.size)).size _).grown hgrow1 (by have h1 := (hv9.trans (hwr.mono hv9.size)).size; simp; omega) (fun k hk => by have h1 := own_base HOW7.out k hk; have h2 := HBX.out.size; omega)))
        have HOWN : Aside0 (wz.ownsRow wx.heap.size 3 1 v' (j + 1) (icells (trackV seed chs cks i fr st (j + 1)))) := ⟨by rw [HNX.out, icells_snoc]; exact hown1⟩
        have HSZ9 : Aside0 (wx.heap.size ≤ wz.heap.size) := ⟨by have h1 := hgrow1.size; have h2 := HSZ7.out; have h3 := hwr.size; simp at h1; omega⟩
        have HVF := Aside0.mk hvF
        have HRU2 : Aside0 (∀ m : Nat, m < j + 1 → runsF x.es (fr + (m : Int) * st) = true) := ⟨fun m hm => by by_cases e : m = j; (subst e; rw [HPS.out]; exact HR.out); exact HRU.out m (by omega)⟩
        clear hSS hv9 hv9d hwr hown1 hgrow1 hvF b51 c53 e3 e4 e5 y0 y1 y2 y3 y4 y5 y6 y7 y8 y9 y10 y11 y12 hB7
        go_wp2
        go_roundw
        case rel => exact ⟨j + 1, hlt, by go_num, by rw [HLS1.out, HWS.out], by rw [HLS1.out], HVF, HOWN, HRU2, HSZ9⟩
        case measure => simp [intOf]; omega
end Go.Proofs.YtlfnnalepdjagaaDoor.C
