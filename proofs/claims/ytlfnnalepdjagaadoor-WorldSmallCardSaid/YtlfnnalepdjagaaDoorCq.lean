/- The contract of the reference's Track. -/
import Derived.OwnWalk
import Derived.BigRegion
import Derived.WalkKit
import Derived.Deep.CutBlock
import Derived.Deep.RegionHeld3
import Derived.Test.YtlfnnalepdjagaaDoorCn
import Derived.Test.YtlfnnalepdjagaaDoorCp
namespace Go.Proofs.YtlfnnalepdjagaaDoor.C
open Go.RowKit Go.Shelf Go.Maps Go.Proofs.YtlfnnalepdjagaaDoorW.PrintWords Go.Proofs.YtlfnnalepdjagaaDoorW.PrintLast Go.Proofs.YtlfnnalepdjagaaDoorW.PrintMore
set_option linter.unusedVariables false
set_option linter.unusedSimpArgs false
set_option maxHeartbeats 4000000 in
set_option maxRecDepth 100000 in
theorem rTrack_calls (seed : Int) (Ah : Option Addr) (chc : Nat) (Ak : Option Addr) (ckc : Nat) (chs : List T3) (cks : List Ck) (k fr st n : Int) (w : World) (hW : WAt 90 w Ah Ak chs cks) (hn9 : n ≤ 9223372036854775807) (hst9 : st ≤ 9223372036854775807) :
    Calls Tryd.prog 36 #[woV seed Ah chs.length chc Ak cks.length ckc, .int .i64 k, .int .i64 fr, .int .i64 st, .int .i64 n] w fun e w' => ∃ A c, e = .returned (.tuple #[.slice A (trackL seed chs cks k fr st n).length c, .int .i64 (errTr chs cks k fr st n)]) ∧ Kd.C kI w' A (trackL seed chs cks k fr st n).length (trackL seed chs cks k fr st n) ∧ Below w.heap.size w w' := by
  have hv := Below.refl w.heap.size w
  have c59 := fun W (hB : Below w.heap.size w W) => clocked_calls seed Ah chc Ak ckc chs cks k 0 W (hW.below hB)
  rw [errS_k0] at c59
  by_cases hE : errK chs cks k = 0
  rotate_left
  · have e1 : errTr chs cks k fr st n = errK chs cks k := by unfold errTr; rw [if_neg hE]
    have e2 : trackL seed chs cks k fr st n = [] := by unfold trackL; rw [e1, if_neg hE]
    rw [e1, e2]
    clear e1 e2 hW
    generalize errK chs cks k = E at *
    have d1 : (E == 0) = false := beq_eq_false_iff_ne.2 hE
    go_enter Tryd.func36, Tryd.ntmps36
    go_wp2_with fail
    obtain ⟨w1, hw1⟩ : ∃ w1, w.alloc (.cells #[.int .u64 seed, .slice Ah chs.length chc, .slice Ak cks.length ckc] 26) = w1 := ⟨_, rfl⟩
    try rw [hw1]
    have hB : Below w.heap.size w w1 := by rw [← hw1]; exact (Below.refl _ w).alloc (by first | exact Nat.le_refl _ | (simp; done) | (simp; omega)) _
    have kx : w1.heap[w.heap.size]? = some (.cells #[.int .u64 seed, .slice Ah chs.length chc, .slice Ak cks.length ckc] 26 (0, 0)) := by rw [← hw1]; exact al_new _ _ _ (by first | rfl | (simp; done) | (simp; omega))
    have x0 : w1.cell? ⟨w.heap.size, 0, none⟩ = some (.int .u64 seed) := blk_cell kx 0
    have x1 : w1.cell? ⟨w.heap.size, 1, none⟩ = some (.slice Ah chs.length chc) := blk_cell kx 1
    have x2 : w1.cell? ⟨w.heap.size, 2, none⟩ = some (.slice Ak cks.length ckc) := blk_cell kx 2
    clear kx
    replace hv := hv.trans (hB.mono hv.size)
    clear hB hw1
    refine (c59 _ hv).mono ?_
    rintro en w2 ⟨rfl, hB⟩
    replace x0 := cell_on hB x0
    replace x1 := cell_on hB x1
    replace x2 := cell_on hB x2
    replace hv := hv.trans (hB.mono hv.size)
    clear hB c59
    go_wp2
    go_ret2
    exact ⟨none, 0, rfl, C_nil _ _, hv⟩
  rw [hE] at c59
  have HEK := Aside0.mk hE
  by_cases g1 : st < 1
  · have fg1 : decide (st < 1) = true := decide_eq_true g1
    have fg1' : decide (1 > st) = true := decide_eq_true g1
    have e1 : errTr chs cks k fr st n = 1 := tr_arg HEK.out (Or.inl g1)
    have e2 : trackL seed chs cks k fr st n = [] := by unfold trackL; rw [e1, if_neg (by decide)]
    rw [e1, e2]
    clear e1 e2 hW
    go_enter Tryd.func36, Tryd.ntmps36
    go_wp2_with fail
    obtain ⟨w1, hw1⟩ : ∃ w1, w.alloc (.cells #[.int .u64 seed, .slice Ah chs.length chc, .slice Ak cks.length ckc] 26) = w1 := ⟨_, rfl⟩
    try rw [hw1]
    have hB : Below w.heap.size w w1 := by rw [← hw1]; exact (Below.refl _ w).alloc (by first | exact Nat.le_refl _ | (simp; done) | (simp; omega)) _
    have kx : w1.heap[w.heap.size]? = some (.cells #[.int .u64 seed, .slice Ah chs.length chc, .slice Ak cks.length ckc] 26 (0, 0)) := by rw [← hw1]; exact al_new _ _ _ (by first | rfl | (simp; done) | (simp; omega))
    have x0 : w1.cell? ⟨w.heap.size, 0, none⟩ = some (.int .u64 seed) := blk_cell kx 0
    have x1 : w1.cell? ⟨w.heap.size, 1, none⟩ = some (.slice Ah chs.length chc) := blk_cell kx 1
    have x2 : w1.cell? ⟨w.heap.size, 2, none⟩ = some (.slice Ak cks.length ckc) := blk_cell kx 2
    clear kx
    replace hv := hv.trans (hB.mono hv.size)
    clear hB hw1
    refine (c59 _ hv).mono ?_
    rintro en w2 ⟨rfl, hB⟩
    replace x0 := cell_on hB x0
    replace x1 := cell_on hB x1
    replace x2 := cell_on hB x2
    replace hv := hv.trans (hB.mono hv.size)
    clear hB c59
    go_wp2
    go_ret2
    exact ⟨none, 0, rfl, C_nil _ _, hv⟩
  have fg1 : decide (st < 1) = false := decide_eq_false g1
  have fg1' : decide (1 > st) = false := decide_eq_false g1
  by_cases g2 : n < 0
  · have fg2 : decide (n < 0) = true := decide_eq_true g2
    have fg2' : decide (0 > n) = true := decide_eq_true g2
    have e1 : errTr chs cks k fr st n = 1 := tr_arg HEK.out (Or.inr (by omega))
    have e2 : trackL seed chs cks k fr st n = [] := by unfold trackL; rw [e1, if_neg (by decide)]
    rw [e1, e2]
    clear e1 e2 hW
    go_enter Tryd.func36, Tryd.ntmps36
    go_wp2_with fail
    obtain ⟨w1, hw1⟩ : ∃ w1, w.alloc (.cells #[.int .u64 seed, .slice Ah chs.length chc, .slice Ak cks.length ckc] 26) = w1 := ⟨_, rfl⟩
    try rw [hw1]
    have hB : Below w.heap.size w w1 := by rw [← hw1]; exact (Below.refl _ w).alloc (by first | exact Nat.le_refl _ | (simp; done) | (simp; omega)) _
    have kx : w1.heap[w.heap.size]? = some (.cells #[.int .u64 seed, .slice Ah chs.length chc, .slice Ak cks.length ckc] 26 (0, 0)) := by rw [← hw1]; exact al_new _ _ _ (by first | rfl | (simp; done) | (simp; omega))
    have x0 : w1.cell? ⟨w.heap.size, 0, none⟩ = some (.int .u64 seed) := blk_cell kx 0
    have x1 : w1.cell? ⟨w.heap.size, 1, none⟩ = some (.slice Ah chs.length chc) := blk_cell kx 1
    have x2 : w1.cell? ⟨w.heap.size, 2, none⟩ = some (.slice Ak cks.length ckc) := blk_cell kx 2
    clear kx
    replace hv := hv.trans (hB.mono hv.size)
    clear hB hw1
    refine (c59 _ hv).mono ?_
    rintro en w2 ⟨rfl, hB⟩
    replace x0 := cell_on hB x0
    replace x1 := cell_on hB x1
    replace x2 := cell_on hB x2
    replace hv := hv.trans (hB.mono hv.size)
    clear hB c59
    go_wp2
    go_ret2
    exact ⟨none, 0, rfl, C_nil _ _, hv⟩
  have fg2 : decide (n < 0) = false := decide_eq_false g2
  have fg2' : decide (0 > n) = false := decide_eq_false g2
  by_cases g3 : 20000 < n
  · have fg3 : decide (20000 < n) = true := decide_eq_true g3
    have fg3' : decide (n > 20000) = true := decide_eq_true g3
    have e1 : errTr chs cks k fr st n = 1 := tr_arg HEK.out (Or.inr (by omega))
    have e2 : trackL seed chs cks k fr st n = [] := by unfold trackL; rw [e1, if_neg (by decide)]
    rw [e1, e2]
    clear e1 e2 hW
    go_enter Tryd.func36, Tryd.ntmps36
    go_wp2_with fail
    obtain ⟨w1, hw1⟩ : ∃ w1, w.alloc (.cells #[.int .u64 seed, .slice Ah chs.length chc, .slice Ak cks.length ckc] 26) = w1 := ⟨_, rfl⟩
    try rw [hw1]
    have hB : Below w.heap.size w w1 := by rw [← hw1]; exact (Below.refl _ w).alloc (by first | exact Nat.le_refl _ | (simp; done) | (simp; omega)) _
    have kx : w1.heap[w.heap.size]? = some (.cells #[.int .u64 seed, .slice Ah chs.length chc, .slice Ak cks.length ckc] 26 (0, 0)) := by rw [← hw1]; exact al_new _ _ _ (by first | rfl | (simp; done) | (simp; omega))
    have x0 : w1.cell? ⟨w.heap.size, 0, none⟩ = some (.int .u64 seed) := blk_cell kx 0
    have x1 : w1.cell? ⟨w.heap.size, 1, none⟩ = some (.slice Ah chs.length chc) := blk_cell kx 1
    have x2 : w1.cell? ⟨w.heap.size, 2, none⟩ = some (.slice Ak cks.length ckc) := blk_cell kx 2
    clear kx
    replace hv := hv.trans (hB.mono hv.size)
    clear hB hw1
    refine (c59 _ hv).mono ?_
    rintro en w2 ⟨rfl, hB⟩
    replace x0 := cell_on hB x0
    replace x1 := cell_on hB x1
    replace x2 := cell_on hB x2
    replace hv := hv.trans (hB.mono hv.size)
    clear hB c59
    go_wp2
    go_ret2
    exact ⟨none, 0, rfl, C_nil _ _, hv⟩
  have fg3 : decide (20000 < n) = false := decide_eq_false g3
  have fg3' : decide (n > 20000) = false := decide_eq_false g3
  have hb : ¬ (st < 1 ∨ ¬ (0 ≤ n ∧ n ≤ 20000)) := by omega
  by_cases g4 : fr < 0
  · have fg4 : decide (fr < 0) = true := decide_eq_true g4
    have fg4' : decide (0 > fr) = true := decide_eq_true g4
    have e1 : errTr chs cks k fr st n = 21 := tr_time HEK.out hb (Or.inl (by omega))
    have e2 : trackL seed chs cks k fr st n = [] := by unfold trackL; rw [e1, if_neg (by decide)]
    rw [e1, e2]
    clear e1 e2 hW
    go_enter Tryd.func36, Tryd.ntmps36
    go_wp2_with fail
    obtain ⟨w1, hw1⟩ : ∃ w1, w.alloc (.cells #[.int .u64 seed, .slice Ah chs.length chc, .slice Ak cks.length ckc] 26) = w1 := ⟨_, rfl⟩
    try rw [hw1]
    have hB : Below w.heap.size w w1 := by rw [← hw1]; exact (Below.refl _ w).alloc (by first | exact Nat.le_refl _ | (simp; done) | (simp; omega)) _
    have kx : w1.heap[w.heap.size]? = some (.cells #[.int .u64 seed, .slice Ah chs.length chc, .slice Ak cks.length ckc] 26 (0, 0)) := by rw [← hw1]; exact al_new _ _ _ (by first | rfl | (simp; done) | (simp; omega))
    have x0 : w1.cell? ⟨w.heap.size, 0, none⟩ = some (.int .u64 seed) := blk_cell kx 0
    have x1 : w1.cell? ⟨w.heap.size, 1, none⟩ = some (.slice Ah chs.length chc) := blk_cell kx 1
    have x2 : w1.cell? ⟨w.heap.size, 2, none⟩ = some (.slice Ak cks.length ckc) := blk_cell kx 2
    clear kx
    replace hv := hv.trans (hB.mono hv.size)
    clear hB hw1
    refine (c59 _ hv).mono ?_
    rintro en w2 ⟨rfl, hB⟩
    replace x0 := cell_on hB x0
    replace x1 := cell_on hB x1
    replace x2 := cell_on hB x2
    replace hv := hv.trans (hB.mono hv.size)
    clear hB c59
    go_wp2
    go_ret2
    exact ⟨none, 0, rfl, C_nil _ _, hv⟩
  have fg4 : decide (fr < 0) = false := decide_eq_false g4
  have fg4' : decide (0 > fr) = false := decide_eq_false g4
  by_cases g5 : 1000000 < fr
  · have fg5 : decide (1000000 < fr) = true := decide_eq_true g5
    have fg5' : decide (fr > 1000000) = true := decide_eq_true g5
    have e1 : errTr chs cks k fr st n = 21 := tr_time HEK.out hb (Or.inl (by omega))
    have e2 : trackL seed chs cks k fr st n = [] := by unfold trackL; rw [e1, if_neg (by decide)]
    rw [e1, e2]
    clear e1 e2 hW
    go_enter Tryd.func36, Tryd.ntmps36
    go_wp2_with fail
    obtain ⟨w1, hw1⟩ : ∃ w1, w.alloc (.cells #[.int .u64 seed, .slice Ah chs.length chc, .slice Ak cks.length ckc] 26) = w1 := ⟨_, rfl⟩
    try rw [hw1]
    have hB : Below w.heap.size w w1 := by rw [← hw1]; exact (Below.refl _ w).alloc (by first | exact Nat.le_refl _ | (simp; done) | (simp; omega)) _
    have kx : w1.heap[w.heap.size]? = some (.cells #[.int .u64 seed, .slice Ah chs.length chc, .slice Ak cks.length ckc] 26 (0, 0)) := by rw [← hw1]; exact al_new _ _ _ (by first | rfl | (simp; done) | (simp; omega))
    have x0 : w1.cell? ⟨w.heap.size, 0, none⟩ = some (.int .u64 seed) := blk_cell kx 0
    have x1 : w1.cell? ⟨w.heap.size, 1, none⟩ = some (.slice Ah chs.length chc) := blk_cell kx 1
    have x2 : w1.cell? ⟨w.heap.size, 2, none⟩ = some (.slice Ak cks.length ckc) := blk_cell kx 2
    clear kx
    replace hv := hv.trans (hB.mono hv.size)
    clear hB hw1
    refine (c59 _ hv).mono ?_
    rintro en w2 ⟨rfl, hB⟩
    replace x0 := cell_on hB x0
    replace x1 := cell_on hB x1
    replace x2 := cell_on hB x2
    replace hv := hv.trans (hB.mono hv.size)
    clear hB c59
    go_wp2
    go_ret2
    exact ⟨none, 0, rfl, C_nil _ _, hv⟩
  have fg5 : decide (1000000 < fr) = false := decide_eq_false g5
  have fg5' : decide (fr > 1000000) = false := decide_eq_false g5
  have g6 : 0 ≤ fr ∧ fr ≤ 1000000 := by omega
  have hk := errK_zero hE
  have hst1 : 1 ≤ st := by omega
  obtain ⟨N, rfl⟩ : ∃ N : Nat, n = N := ⟨n.toNat, by omega⟩
  have hN : N ≤ 20000 := by omega
  have HB0 := Aside0.mk hb
  have HOK := Aside0.mk hk.1
  have HKR := Aside0.mk hk.2
  have c29 := fun (s : Int) W (hB : Below w.heap.size w W) => rShown_calls seed Ah chc Ak ckc chs cks k s W (hW.below hB)
  have C29 := Aside0.mk c29
  obtain ⟨i3, hi3, hi30, hi31, hi32⟩ := info_parts info3n
  clear c29 hW hE hk hb g1 g2 g3 g4 g5
  go_enter Tryd.func36, Tryd.ntmps36
  go_wp2_with fail
  obtain ⟨w1, hw1⟩ : ∃ w1, w.alloc (.cells #[.int .u64 seed, .slice Ah chs.length chc, .slice Ak cks.length ckc] 26) = w1 := ⟨_, rfl⟩
  try rw [hw1]
  have hB : Below w.heap.size w w1 := by rw [← hw1]; exact (Below.refl _ w).alloc (by first | exact Nat.le_refl _ | (simp; done) | (simp; omega)) _
  have kx : w1.heap[w.heap.size]? = some (.cells #[.int .u64 seed, .slice Ah chs.length chc, .slice Ak cks.length ckc] 26 (0, 0)) := by rw [← hw1]; exact al_new _ _ _ (by first | rfl | (simp; done) | (simp; omega))
  have x0 : w1.cell? ⟨w.heap.size, 0, none⟩ = some (.int .u64 seed) := blk_cell kx 0
  have x1 : w1.cell? ⟨w.heap.size, 1, none⟩ = some (.slice Ah chs.length chc) := blk_cell kx 1
  have x2 : w1.cell? ⟨w.heap.size, 2, none⟩ = some (.slice Ak cks.length ckc) := blk_cell kx 2
  replace hv := hv.trans (hB.mono hv.size)
  clear hB hw1
  refine (c59 _ hv).mono ?_
  rintro en w2 ⟨rfl, hB⟩
  replace kx := blk_on hB kx
  replace x0 := cell_on hB x0
  replace x1 := cell_on hB x1
  replace x2 := cell_on hB x2
  replace hv := hv.trans (hB.mono hv.size)
  clear hB c59
  have HK := Aside0.mk kx
  have HV := Aside0.mk hv
  clear kx hv x0 x1 x2
  go_wp2
  go_loopw [14, 13] (fun v14 v13 wr => ∃ j : Nat, (j = 0 ∨ j < N) ∧ v14 = .int .i64 (1 + j) ∧ v13 = .int .i64 (fr + j * st) ∧ fr + (j : Int) * st ≤ 1000000 ∧ wr = w2) (fun v _ _ => N + 1 - (intOf v).toNat)
  case atStart => exact ⟨0, Or.inl rfl, by simp, by simp, by simp; omega, rfl⟩
  case round =>
    obtain ⟨j, hj, rfl, rfl, hle, rfl⟩ := hrel
    have hp0 : 0 ≤ (j : Int) * st := Int.mul_nonneg (by omega) (by omega)
    have HNXT := Aside0.mk (show ((j + 1 : Nat) : Int) * st = (j : Int) * st + st by push_cast; rw [Int.add_mul, Int.one_mul])
    by_cases hlt : j + 1 < N
    · have d1 : (1 : Int) + (j : Int) < (N : Int) := by omega
      have d1' : decide ((1 : Int) + (j : Int) < (N : Int)) = true := decide_eq_true d1
      obtain ⟨p, hp⟩ : ∃ p, (j : Int) * st = p := ⟨_, rfl⟩
      rw [hp] at hp0 hle ⊢
      have HP := Aside0.mk hp
      clear hp
      have m1 : IntKind.i64.wrap (1000000 - (fr + p)) = 1000000 - (fr + p) := C.wr _ (by omega) (by omega)
      by_cases g : 1000000 - (fr + p) < st
      · have f1 : decide (1000000 - (fr + p) < st) = true := decide_eq_true g
        have f1' : decide (st > 1000000 - (fr + p)) = true := decide_eq_true g
        have e1 : Aside0 (errTr chs cks k fr st (N : Int) = 21) := ⟨tr_time HEK.out HB0.out (Or.inr ⟨by omega, by
          have h1 := HNXT.out
          have h2 : ((j + 1 : Nat) : Int) * st ≤ ((N : Int) - 1) * st := Int.mul_le_mul_of_nonneg_right (by omega) (by omega)
          rw [HP.out] at h1
          omega⟩)⟩
        have e2 : Aside0 (trackL seed chs cks k fr st (N : Int) = []) := ⟨by unfold trackL; rw [e1.out, if_neg (by decide)]⟩
        clear g hle hp0
        go_wp2
        go_ret2
        first | exact ⟨none, 0, by rw [e1.out, e2.out]; rfl, by rw [e2.out]; exact C_nil _ _, HV.out⟩ | exact ⟨none, ⟨0, by rw [e1.out, e2.out]; rfl⟩, by rw [e2.out]; exact C_nil _ _, HV.out⟩
      · have f1 : decide (1000000 - (fr + p) < st) = false := decide_eq_false g
        have f1' : decide (st > 1000000 - (fr + p)) = false := decide_eq_false g
        have m2 : IntKind.i64.wrap (fr + p + st) = fr + p + st := C.wr _ (by omega) (by omega)
        have m3 : IntKind.i64.wrap (1 + (j : Int) + 1) = 1 + (j : Int) + 1 := C.wr _ (by omega) (by omega)
        have HLE := Aside0.mk (show fr + p + st ≤ 1000000 by omega)
        clear g hle hp0
        go_wp2
        go_roundw
        case rel => exact ⟨j + 1, Or.inr hlt, by first | (congr 1; push_cast; omega) | (simp; omega), by rw [HNXT.out, HP.out, Int.add_assoc], by rw [HNXT.out, HP.out]; have := HLE.out; omega, by first | rfl | trivial⟩
        case measure => simp [intOf]; omega
    · have d1 : ¬ (1 : Int) + (j : Int) < (N : Int) := by omega
      have d1' : decide ((1 : Int) + (j : Int) < (N : Int)) = false := decide_eq_false d1
      have hb2 : ¬ (1 < (N : Int) ∧ 1000000 - fr < ((N : Int) - 1) * st) := by
        rintro ⟨h1, h2⟩
        have e : (N : Int) - 1 = (j : Int) := by omega
        rw [e] at h2
        omega
      have HTR := Aside0.mk (tr_run HEK.out HB0.out (by rintro (h | h); (exact h g6); (exact hb2 h)))
      have HAT := Aside0.mk (fun (m : Nat) (hm : m < N) => tr_at (fr := fr) (st := st) (n := (N : Int)) hst1 g6 hb2 (j := m) (by omega))
      clear hb2 hle hp0 hj HNXT
      go_upto_block 2 with fail
      clear d1 d1' hlt
      go_wp2
      go_loopw [16, 15] (fun v16 v15 wz => ∃ m : Nat, m ≤ N ∧ v16 = .int .i64 m ∧ Aside0 (Below wr.heap.size wr wz) ∧ Aside0 (wz.ownsRow wr.heap.size 3 1 v15 m (icells (trackV seed chs cks k fr st m))) ∧ Aside0 (∀ a : Nat, a < m → runsF (ckAt cks k).es (fr + (a : Int) * st) = true)) (fun v _ _ => N - (intOf v).toNat)
      case atStart => exact ⟨0, Nat.zero_le _, rfl, ⟨Below.refl _ _⟩, ⟨own_nil _ _ _ _⟩, ⟨fun a h => by omega⟩⟩
      case round =>
        obtain ⟨m, hm, rfl, HB, HOW, HRU⟩ := hrel
        rename World => wz
        have HV2 := Aside0.mk (HV.out.trans (HB.out.mono HV.out.size))
        have kx := blk_on HB.out HK.out
        have x0 : wz.cell? ⟨w.heap.size, 0, none⟩ = some (.int .u64 seed) := blk_cell kx 0
        have x1 : wz.cell? ⟨w.heap.size, 1, none⟩ = some (.slice Ah chs.length chc) := blk_cell kx 1
        have x2 : wz.cell? ⟨w.heap.size, 2, none⟩ = some (.slice Ak cks.length ckc) := blk_cell kx 2
        clear kx
        by_cases hlt : m < N
        rotate_left
        · have d1 : ¬ (m : Int) < (N : Int) := by omega
          obtain rfl : m = N := by omega
          have HALL : Aside0 (errTr chs cks k fr st (m : Int) = 0) := ⟨by rw [HTR.out, if_pos]; rw [List.all_eq_true]; intro a ha; exact HRU.out a (by simpa using ha)⟩
          have HL : Aside0 (trackL seed chs cks k fr st (m : Int) = trackV seed chs cks k fr st m) := ⟨by unfold trackL; rw [if_pos HALL.out, Int.toNat_natCast]⟩
          obtain ⟨A, c, hA9, hCI⟩ := own_I (l := trackV seed chs cks k fr st m) (by rw [trackV_len]; exact HOW.out)
          subst hA9
          have HCI := Aside0.mk hCI
          have HLN := Aside0.mk (trackV_len seed chs cks k fr st m)
          clear hCI hlt HOW x0 x1 x2
          generalize (trackV seed chs cks k fr st m).length = len at *
          go_wp2
          go_ret2
          first | exact ⟨A, ⟨c, by rw [HALL.out, HL.out, trackV_len, HLN.out]; rfl⟩, by rw [HL.out]; have := HCI.out; rw [trackV_len]; rwa [HLN.out] at this, HV2.out⟩ | exact ⟨A, c, by rw [HALL.out, HL.out, trackV_len, HLN.out]; rfl, by rw [HL.out]; have := HCI.out; rw [trackV_len]; rwa [HLN.out] at this, HV2.out⟩
        · have d1 : (m : Int) < (N : Int) := by omega
          have hat := HAT.out m hlt
          have HNX := Aside0.mk (trackV_next seed chs cks k fr st m)
          obtain ⟨p, hp⟩ : ∃ p, (m : Int) * st = p := ⟨_, rfl⟩
          have m1 : IntKind.i64.wrap ((m : Int) * st) = p := by rw [hp]; exact C.wr _ (by omega) (by omega)
          rw [hp] at hat HNX
          obtain ⟨s, hs⟩ : ∃ s, fr + p = s := ⟨_, rfl⟩
          have m2 : IntKind.i64.wrap (fr + p) = s := by rw [hs]; exact C.wr _ (by omega) (by omega)
          rw [hs] at hat HNX
          have hs0 : 0 ≤ s ∧ s ≤ 1000000 := by omega
          have HPS := Aside0.mk (show fr + (m : Int) * st = s by rw [hp, hs])
          have hES : errS chs cks k s = 0 := by unfold errS timedF; rw [if_pos HEK.out, if_pos hs0]
          have hEN : errN chs cks k s = if runsF (ckAt cks k).es s then 0 else 22 := by unfold errN; rw [if_pos hES]
          have c29 := C29.out s wz HV2.out
          unfold shownR at c29
          rw [hEN] at c29
          obtain ⟨r, hr⟩ : ∃ r, runsF (ckAt cks k).es s = r := ⟨_, rfl⟩
          rw [hr] at c29
          have HR := Aside0.mk hr
          clear hr hEN hES hs0 hat hp hs
          cases r
          · have HALL : Aside0 (errTr chs cks k fr st (N : Int) = 22) := ⟨by
              rw [HTR.out, if_neg]
              intro h
              rw [List.all_eq_true] at h
              have := h m (by simpa using hlt)
              rw [HPS.out, HR.out] at this
              cases this⟩
            have HL : Aside0 (trackL seed chs cks k fr st (N : Int) = []) := ⟨by unfold trackL; rw [HALL.out, if_neg (by decide)]⟩
            simp only [Bool.false_eq_true, if_false] at c29
            rw [if_neg (by decide)] at c29
            go_wp2_with fail
            refine c29.mono ?_
            rintro en w6 ⟨rfl, hB⟩
            have HV6 := Aside0.mk (HV2.out.trans (hB.mono HV2.out.size))
            clear hB c29 x0 x1 x2
            go_wp2
            go_ret2
            first | exact ⟨none, 0, by rw [HALL.out, HL.out]; rfl, by rw [HL.out]; exact C_nil _ _, HV6.out⟩ | exact ⟨none, ⟨0, by rw [HALL.out, HL.out]; rfl⟩, by rw [HL.out]; exact C_nil _ _, HV6.out⟩
          · simp only [if_true] at c29
            obtain ⟨V, hV⟩ : ∃ v, shownF seed chs cks k s = v := ⟨_, rfl⟩
            rw [hV] at c29 HNX
            clear hV
            go_wp2_with fail
            refine c29.mono ?_
            rintro en w6 ⟨rfl, hB⟩
            have HB6 := Aside0.mk (HB.out.trans (hB.mono HB.out.size))
            have hsz6 := hB.size
            have hownD : (w6.alloc (.cells #[.int .i64 V] 3)).ownsRow wr.heap.size 3 1 u15 m (icells (trackV seed chs cks k fr st m)) := own_move HOW.out (fun a ha => (Below.heap_alloc _ _ a (by have := own_lt HOW.out a ha; omega)).trans (hB.block a (own_lt HOW.out a ha)))
            have hobs := own_base HOW.out
            have hzz := HB6.out.size
            clear hB c29 x0 x1 x2
            go_wp2_with (at_builtin; refine wpList_append_own _ rfl _ _ 76 rfl wr.heap.size 3 i3 (.int .i64 0) 1 8 Tryd.underlying76 hi3 hi30 hi31 hi32 rfl (by decide) _ _ _ rfl hownD ⟨w6.heap.size, 0, none⟩ 1 1 [.int .i64 V] rfl ?qc1 ?qc2 ?qc3 ?qc4 ?qc5 ?qc6 ?_)
            all_goals try (first | (case qc1 => rfl) | (case qc2 => exact World.news_of_block (cs := #[.int .i64 V]) (t := 3) (fr := (0, 0)) (al_new _ _ _ (by simp))) | (case qc3 => simp [Value.oneCell']) | (case qc4 => unfold maxLen; omega) | (case qc5 => omega) | (case qc6 => first | omega | (simp; omega)))
            intro v' w7 hown1 hgrow1 hnil1
            have HOWN : Aside0 (w7.ownsRow wr.heap.size 3 1 v' (m + 1) (icells (trackV seed chs cks k fr st (m + 1)))) := ⟨by rw [HNX.out, icells_snoc]; exact hown1⟩
            have HB7 : Aside0 (Below wr.heap.size wr w7) := ⟨(HB6.out.alloc HB6.out.size _).grown hgrow1 (by simp; omega) (fun a ha => hobs a ha)⟩
            have HRU2 : Aside0 (∀ a : Nat, a < m + 1 → runsF (ckAt cks k).es (fr + (a : Int) * st) = true) := ⟨fun a ha => by by_cases e : a = m; (subst e; rw [HPS.out]; exact HR.out); exact HRU.out a (by omega)⟩
            clear hown1 hgrow1 hnil1 hownD hobs hzz hsz6
            go_wp2
            go_roundw
            case rel => exact ⟨m + 1, hlt, by go_num, HB7, HOWN, HRU2⟩
            case measure => simp [intOf]; omega
end Go.Proofs.YtlfnnalepdjagaaDoor.C
