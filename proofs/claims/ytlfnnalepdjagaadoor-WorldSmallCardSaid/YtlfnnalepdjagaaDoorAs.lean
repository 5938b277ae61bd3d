/- The contracts of Read and of Temperature. -/
import Derived.OwnWalk
import Derived.BigRegion
import Derived.Deep.RegionHeld3
import Derived.Test.YtlfnnalepdjagaaDoorAr
namespace Go.Proofs.YtlfnnalepdjagaaDoor.C
open Go.RowKit Go.Shelf Go.Maps Go.Proofs.YtlfnnalepdjagaaDoorW.PrintWords Go.Proofs.YtlfnnalepdjagaaDoorW.PrintLast Go.Proofs.YtlfnnalepdjagaaDoorW.PrintMore
set_option linter.unusedVariables false
set_option linter.unusedSimpArgs false
theorem errN_zero {chs : List T3} {cks : List Ck} {k s : Int} (h : errN chs cks k s = 0) : errS chs cks k s = 0 ∧ runsF (ckAt cks k).es s = true := by
  unfold errN at h
  split at h
  · rename_i h1
    refine ⟨h1, ?_⟩
    cases hr : runsF (ckAt cks k).es s
    · rw [hr] at h; simp at h
    · rfl
  · rename_i h1; exact absurd h h1
theorem shown_b {chs : List T3} {cks : List Ck} {k s seed : Int} (h : errS chs cks k s = 0) : -4000000000000000 ≤ shownF seed chs cks k s ∧ shownF seed chs cks k s ≤ 4000000000000000 := by
  have hz := errS_zero h
  have hkz := errK_zero hz.1
  obtain ⟨i, rfl⟩ : ∃ i : Nat, k = i := ⟨k.toNat, by omega⟩
  have hi : i < cks.length := by omega
  obtain ⟨hO, hEv, q, hq, hxq, hc⟩ := hkz.1.at hi
  rw [shownF_of hi rfl hq hxq]
  have s1 := still_b hO hEv hc hz.2
  have s2 := walked_b (seed := seed) (k := (i : Int)) (fr := 0) hO (Int.le_refl 0) hz.2
  have s3 := white_b (s := s) (seed := seed) (k := (i : Int)) hO
  omega
def readR (seed : Int) (chs : List T3) (cks : List Ck) (k s : Int) : (Int × Int) × Int := if errN chs cks k s = 0 then (momF s (shownF seed chs cks k s), 0) else ((0, 0), errN chs cks k s)
/-- A temperature. -/
def errT (chs : List T3) (cks : List Ck) (c s : Int) : Int := if checkW chs cks = 0 then if inW c 0 ((chs.length : Int) - 1) then timedF s else 20 else checkW chs cks
def tempR (chs : List T3) (cks : List Ck) (c s : Int) : Int × Int := if errT chs cks c s = 0 then (warmF (chs.getD c.toNat (0, 0, 0)).1 (chs.getD c.toNat (0, 0, 0)).2.1 (chs.getD c.toNat (0, 0, 0)).2.2 s, 0) else (0, errT chs cks c s)
set_option maxHeartbeats 4000000 in
set_option maxRecDepth 100000 in
theorem Read_calls (seed : Int) (Ah : Option Addr) (chc : Nat) (Ak : Option Addr) (ckc : Nat) (chs : List T3) (cks : List Ck) (k s : Int) (w : World) (hL : Lim w) (hW : WAt 51 w Ah Ak chs cks) (hwf : WfK cks) :
    Calls Tryd.prog 13 #[woV seed Ah chs.length chc Ak cks.length ckc, .int .i64 k, .int .i64 s] w fun e w' => e = .returned (.tuple #[.agg #[.int .i64 (readR seed chs cks k s).1.1, .int .i64 (readR seed chs cks k s).1.2], .int .i64 (readR seed chs cks k s).2]) ∧ Below w.heap.size w w' := by
  have hv := Below.refl w.heap.size w
  unfold readR
  have c0 := fun W (hB : Below w.heap.size w W) => Shown_calls seed Ah chc Ak ckc chs cks k s W (hL.below hB) (hW.below hB) hwf
  unfold shownR at c0
  clear hL hW hwf
  by_cases hE : errN chs cks k s = 0
  rotate_left
  · rw [if_neg hE]
    rw [if_neg hE] at c0
    generalize errN chs cks k s = E at *
    have d1 : (E == 0) = false := beq_eq_false_iff_ne.2 hE
    go_enter Tryd.func13, Tryd.ntmps13
    go_wp2_with fail
    obtain ⟨w1, hw1⟩ : ∃ w1, (w.alloc (.cells #[.int .u64 seed, .slice Ah chs.length chc, .slice Ak cks.length ckc] 32)).alloc (.cells #[.int .i64 0, .int .i64 0] 35) = w1 := ⟨_, rfl⟩
    try rw [hw1]
    have hB : Below w.heap.size w w1 := by rw [← hw1]; exact ((Below.refl _ w).alloc (by first | exact Nat.le_refl _ | (simp; done) | (simp; omega)) _).alloc (by first | exact Nat.le_refl _ | (simp; done) | (simp; omega)) _
    have kx : w1.heap[w.heap.size]? = some (.cells #[.int .u64 seed, .slice Ah chs.length chc, .slice Ak cks.length ckc] 32 (0, 0)) := by rw [← hw1]; exact al_old (al_new _ _ _ (by first | rfl | (simp; done) | (simp; omega)))
    have x0 : w1.cell? ⟨w.heap.size, 0, none⟩ = some (.int .u64 seed) := blk_cell kx 0
    have x1 : w1.cell? ⟨w.heap.size, 1, none⟩ = some (.slice Ah chs.length chc) := blk_cell kx 1
    have x2 : w1.cell? ⟨w.heap.size, 2, none⟩ = some (.slice Ak cks.length ckc) := blk_cell kx 2
    have kr : w1.heap[w.heap.size + 1]? = some (.cells #[.int .i64 0, .int .i64 0] 35 (0, 0)) := by rw [← hw1]; exact al_new _ _ _ (by first | rfl | (simp; done) | (simp; omega))
    have r0 : w1.cell? ⟨w.heap.size + 1, 0, none⟩ = some (.int .i64 0) := blk_cell kr 0
    have r1 : w1.cell? ⟨w.heap.size + 1, 1, none⟩ = some (.int .i64 0) := blk_cell kr 1
    replace hv := hv.trans (hB.mono hv.size)
    clear hB hw1
    have z0 := blk_frozen kr 0
    have z1 := blk_frozen kr 1
    refine (c0 _ hv).mono ?_
    rintro en w2 ⟨rfl, hB⟩
    replace kr := blk_on hB kr
    replace z0 := blk_frozen kr 0
    replace z1 := blk_frozen kr 1
    replace x0 := cell_on hB x0
    replace x1 := cell_on hB x1
    replace x2 := cell_on hB x2
    replace r0 := cell_on hB r0
    replace r1 := cell_on hB r1
    replace hv := hv.trans (hB.mono hv.size)
    clear hB c0
    go_wp2_with fail
    exact bodyPost_ret (results_row_tmp rfl _ _ (w.heap.size + 1) 35 _ (0, 0) _ rfl (blk_put (blk_put kr 0 _ rfl) 1 _ rfl) Tryd.underlying35 rfl info35) rfl ⟨rfl, (hv.setCell (by simp) _).setCell (by simp) _⟩
  rw [if_pos hE]
  rw [if_pos hE] at c0
  have hz := errN_zero hE
  have hs := (errS_zero hz.1).2
  have hb := shown_b (seed := seed) hz.1
  have c2 := fun W => moment_calls s (shownF seed chs cks k s) W (by omega) (by omega)
  generalize shownF seed chs cks k s = V at *
  clear hE hz hb
  obtain ⟨M, hM⟩ : ∃ m, momF s V = m := ⟨_, rfl⟩
  rw [hM] at c2 ⊢
  obtain ⟨M1, M2⟩ := M
  simp only at c2 ⊢
  go_enter Tryd.func13, Tryd.ntmps13
  go_wp2_with fail
  obtain ⟨w1, hw1⟩ : ∃ w1, (w.alloc (.cells #[.int .u64 seed, .slice Ah chs.length chc, .slice Ak cks.length ckc] 32)).alloc (.cells #[.int .i64 0, .int .i64 0] 35) = w1 := ⟨_, rfl⟩
  try rw [hw1]
  have hB : Below w.heap.size w w1 := by rw [← hw1]; exact ((Below.refl _ w).alloc (by first | exact Nat.le_refl _ | (simp; done) | (simp; omega)) _).alloc (by first | exact Nat.le_refl _ | (simp; done) | (simp; omega)) _
  have kx : w1.heap[w.heap.size]? = some (.cells #[.int .u64 seed, .slice Ah chs.length chc, .slice Ak cks.length ckc] 32 (0, 0)) := by rw [← hw1]; exact al_old (al_new _ _ _ (by first | rfl | (simp; done) | (simp; omega)))
  have x0 : w1.cell? ⟨w.heap.size, 0, none⟩ = some (.int .u64 seed) := blk_cell kx 0
  have x1 : w1.cell? ⟨w.heap.size, 1, none⟩ = some (.slice Ah chs.length chc) := blk_cell kx 1
  have x2 : w1.cell? ⟨w.heap.size, 2, none⟩ = some (.slice Ak cks.length ckc) := blk_cell kx 2
  have kr : w1.heap[w.heap.size + 1]? = some (.cells #[.int .i64 0, .int .i64 0] 35 (0, 0)) := by rw [← hw1]; exact al_new _ _ _ (by first | rfl | (simp; done) | (simp; omega))
  have r0 : w1.cell? ⟨w.heap.size + 1, 0, none⟩ = some (.int .i64 0) := blk_cell kr 0
  have r1 : w1.cell? ⟨w.heap.size + 1, 1, none⟩ = some (.int .i64 0) := blk_cell kr 1
  replace hv := hv.trans (hB.mono hv.size)
  clear hB hw1
  have z0 := blk_frozen kr 0
  have z1 := blk_frozen kr 1
  refine (c0 _ hv).mono ?_
  rintro en w2 ⟨rfl, hB⟩
  replace kr := blk_on hB kr
  replace z0 := blk_frozen kr 0
  replace z1 := blk_frozen kr 1
  replace x0 := cell_on hB x0
  replace x1 := cell_on hB x1
  replace x2 := cell_on hB x2
  replace r0 := cell_on hB r0
  replace r1 := cell_on hB r1
  replace hv := hv.trans (hB.mono hv.size)
  clear hB c0
  go_wp2_with fail
  refine (c2 _).mono ?_
  rintro en w3 ⟨rfl, hB⟩
  replace kr := blk_on hB kr
  replace z0 := blk_frozen kr 0
  replace z1 := blk_frozen kr 1
  replace x0 := cell_on hB x0
  replace x1 := cell_on hB x1
  replace x2 := cell_on hB x2
  replace r0 := cell_on hB r0
  replace r1 := cell_on hB r1
  replace hv := hv.trans (hB.mono hv.size)
  clear hB c2
  go_wp2_with fail
  exact bodyPost_ret (results_row_tmp rfl _ _ (w.heap.size + 1) 35 _ (0, 0) _ rfl (blk_put (blk_put kr 0 _ rfl) 1 _ rfl) Tryd.underlying35 rfl info35) rfl ⟨rfl, (hv.setCell (by simp) _).setCell (by simp) _⟩
set_option maxHeartbeats 4000000 in
set_option maxRecDepth 100000 in
theorem Temperature_calls (seed : Int) (Ah : Option Addr) (chc : Nat) (Ak : Option Addr) (ckc : Nat) (chs : List T3) (cks : List Ck) (c s : Int) (w : World) (hL : Lim w) (hW : WAt 51 w Ah Ak chs cks) (hwf : WfK cks) :
    Calls Tryd.prog 22 #[woV seed Ah chs.length chc Ak cks.length ckc, .int .i64 c, .int .i64 s] w fun e w' => e = .returned (.tuple #[.int .i64 (tempR chs cks c s).1, .int .i64 (tempR chs cks c s).2]) ∧ Below w.heap.size w w' := by
  have hv := Below.refl w.heap.size w
  unfold tempR
  have c0 := fun W (hB : Below w.heap.size w W) => Check_calls seed Ah chc Ak ckc chs cks W (hL.below hB) (hW.below hB) hwf
  have c48 := fun W => inW_calls c 0 ((chs.length : Int) - 1) W
  have c57 := fun W => timed_calls s W
  have hlh : chs.length ≤ 9223372036854775807 := hW.h.2.1
  have u1 := wr ((chs.length : Int) - 1) (by omega) (by omega)
  by_cases h0 : checkW chs cks = 0
  rotate_left
  · have hT : errT chs cks c s = checkW chs cks := by unfold errT; rw [if_neg h0]
    rw [hT, if_neg h0]
    clear hT
    generalize checkW chs cks = E at *
    have d1 : (E == 0) = false := beq_eq_false_iff_ne.2 h0
    clear c48 c57
    clear hL hW hwf
    go_enter Tryd.func22, Tryd.ntmps22
    go_wp2_with fail
    obtain ⟨w1, hw1⟩ : ∃ w1, w.alloc (.cells #[.int .u64 seed, .slice Ah chs.length chc, .slice Ak cks.length ckc] 32) = w1 := ⟨_, rfl⟩
    try rw [hw1]
    have hB : Below w.heap.size w w1 := by rw [← hw1]; exact (Below.refl _ w).alloc (by first | exact Nat.le_refl _ | (simp; done) | (simp; omega)) _
    have kx : w1.heap[w.heap.size]? = some (.cells #[.int .u64 seed, .slice Ah chs.length chc, .slice Ak cks.length ckc] 32 (0, 0)) := by rw [← hw1]; exact al_new _ _ _ (by first | rfl | (simp; done) | (simp; omega))
    have x0 : w1.cell? ⟨w.heap.size, 0, none⟩ = some (.int .u64 seed) := blk_cell kx 0
    have x1 : w1.cell? ⟨w.heap.size, 1, none⟩ = some (.slice Ah chs.length chc) := blk_cell kx 1
    have x2 : w1.cell? ⟨w.heap.size, 2, none⟩ = some (.slice Ak cks.length ckc) := blk_cell kx 2
    clear kx
    replace hv := hv.trans (hB.mono hv.size)
    clear hB hw1
    refine (c0 _ hv).mono ?_
    rintro en w2 ⟨rfl, hB⟩
    replace x0 := cell_on hB x0
    replace x1 := cell_on hB x1
    replace x2 := cell_on hB x2
    replace hv := hv.trans (hB.mono hv.size)
    clear hB c0
    go_wp2_with fail
    go_ret2
    exact ⟨rfl, hv⟩
  have hT : errT chs cks c s = if inW c 0 ((chs.length : Int) - 1) then timedF s else 20 := by unfold errT; rw [if_pos h0]
  rw [h0] at c0
  rw [hT]
  cases h1 : inW c 0 ((chs.length : Int) - 1)
  · rw [h1] at c48
    clear c57 hT h1
    simp only [Bool.false_eq_true, if_false]
    rw [if_neg (show ¬ (20 : Int) = 0 by decide)]
    simp only
    clear hL hW hwf
    go_enter Tryd.func22, Tryd.ntmps22
    go_wp2_with fail
    obtain ⟨w1, hw1⟩ : ∃ w1, w.alloc (.cells #[.int .u64 seed, .slice Ah chs.length chc, .slice Ak cks.length ckc] 32) = w1 := ⟨_, rfl⟩
    try rw [hw1]
    have hB : Below w.heap.size w w1 := by rw [← hw1]; exact (Below.refl _ w).alloc (by first | exact Nat.le_refl _ | (simp; done) | (simp; omega)) _
    have kx : w1.heap[w.heap.size]? = some (.cells #[.int .u64 seed, .slice Ah chs.length chc, .slice Ak cks.length ckc] 32 (0, 0)) := by rw [← hw1]; exact al_new _ _ _ (by first | rfl | (simp; done) | (simp; omega))
    have x0 : w1.cell? ⟨w.heap.size, 0, none⟩ = some (.int .u64 seed) := blk_cell kx 0
    have x1 : w1.cell? ⟨w.heap.size, 1, none⟩ = some (.slice Ah chs.length chc) := blk_cell kx 1
    have x2 : w1.cell? ⟨w.heap.size, 2, none⟩ = some (.slice Ak cks.length ckc) := blk_cell kx 2
    clear kx
    replace hv := hv.trans (hB.mono hv.size)
    clear hB hw1
    refine (c0 _ hv).mono ?_
    rintro en w2 ⟨rfl, hB⟩
    replace x0 := cell_on hB x0
    replace x1 := cell_on hB x1
    replace x2 := cell_on hB x2
    replace hv := hv.trans (hB.mono hv.size)
    clear hB c0
    go_wp2_with fail
    refine (c48 _).mono ?_
    rintro en w3 ⟨rfl, hB⟩
    replace x0 := cell_on hB x0
    replace x1 := cell_on hB x1
    replace x2 := cell_on hB x2
    replace hv := hv.trans (hB.mono hv.size)
    clear hB c48
    go_wp2_with fail
    go_ret2
    exact ⟨rfl, hv⟩
  have hc := (inW_iff _ _ _).1 h1
  rw [h1] at c48
  clear hT h1
  simp only [if_true]
  by_cases h2 : timedF s = 0
  rotate_left
  · rw [if_neg h2]
    generalize timedF s = E at *
    have d1 : (E == 0) = false := beq_eq_false_iff_ne.2 h2
    clear hL hW hwf
    go_enter Tryd.func22, Tryd.ntmps22
    go_wp2_with fail
    obtain ⟨w1, hw1⟩ : ∃ w1, w.alloc (.cells #[.int .u64 seed, .slice Ah chs.length chc, .slice Ak cks.length ckc] 32) = w1 := ⟨_, rfl⟩
    try rw [hw1]
    have hB : Below w.heap.size w w1 := by rw [← hw1]; exact (Below.refl _ w).alloc (by first | exact Nat.le_refl _ | (simp; done) | (simp; omega)) _
    have kx : w1.heap[w.heap.size]? = some (.cells #[.int .u64 seed, .slice Ah chs.length chc, .slice Ak cks.length ckc] 32 (0, 0)) := by rw [← hw1]; exact al_new _ _ _ (by first | rfl | (simp; done) | (simp; omega))
    have x0 : w1.cell? ⟨w.heap.size, 0, none⟩ = some (.int .u64 seed) := blk_cell kx 0
    have x1 : w1.cell? ⟨w.heap.size, 1, none⟩ = some (.slice Ah chs.length chc) := blk_cell kx 1
    have x2 : w1.cell? ⟨w.heap.size, 2, none⟩ = some (.slice Ak cks.length ckc) := blk_cell kx 2
    clear kx
    replace hv := hv.trans (hB.mono hv.size)
    clear hB hw1
    refine (c0 _ hv).mono ?_
    rintro en w2 ⟨rfl, hB⟩
    replace x0 := cell_on hB x0
    replace x1 := cell_on hB x1
    replace x2 := cell_on hB x2
    replace hv := hv.trans (hB.mono hv.size)
    clear hB c0
    go_wp2_with fail
    refine (c48 _).mono ?_
    rintro en w3 ⟨rfl, hB⟩
    replace x0 := cell_on hB x0
    replace x1 := cell_on hB x1
    replace x2 := cell_on hB x2
    replace hv := hv.trans (hB.mono hv.size)
    clear hB c48
    go_wp2_with fail
    refine (c57 _).mono ?_
    rintro en w4 ⟨rfl, hB⟩
    replace x0 := cell_on hB x0
    replace x1 := cell_on hB x1
    replace x2 := cell_on hB x2
    replace hv := hv.trans (hB.mono hv.size)
    clear hB
    go_wp2_with fail
    refine (c57 _).mono ?_
    rintro en w5 ⟨rfl, hB⟩
    replace x0 := cell_on hB x0
    replace x1 := cell_on hB x1
    replace x2 := cell_on hB x2
    replace hv := hv.trans (hB.mono hv.size)
    clear hB c57
    go_wp2_with fail
    go_ret2
    exact ⟨rfl, hv⟩
  have hs : 0 ≤ s ∧ s ≤ 1000000 := by unfold timedF at h2; split at h2 <;> omega
  rw [if_pos h2]
  rw [h2] at c57
  obtain ⟨q, rfl⟩ : ∃ q : Nat, c = q := ⟨c.toNat, by omega⟩
  have hq : q < chs.length := by omega
  have hco := (woOk_of h0).ch _ (List.getElem_mem hq)
  rw [Int.toNat_natCast, getD_at hq]
  obtain ⟨ad, rfl, b0, b1, b2⟩ := C_3 hW.h q hq hq
  generalize chs[q] = z at *
  obtain ⟨za, zb, zc⟩ := z
  simp only at b0 b1 b2 ⊢
  have c58 := fun W => at_calls za zb zc s W hco.b hco.s hco.p hs
  clear hco
  generalize warmF za zb zc s = V at *
  have hd : (q : Int) < (chs.length : Int) := by omega
  have hq0 : (0 : Int) ≤ (q : Int) := by omega
  have hbl := World.block_lt_of_cell? _ _ b0
  clear h0 h2 hs hc hlh hq
  clear hL hW hwf
  go_enter Tryd.func22, Tryd.ntmps22
  go_wp2_with fail
  obtain ⟨w1, hw1⟩ : ∃ w1, w.alloc (.cells #[.int .u64 seed, .slice (some ad) chs.length chc, .slice Ak cks.length ckc] 32) = w1 := ⟨_, rfl⟩
  try rw [hw1]
  have hB : Below w.heap.size w w1 := by rw [← hw1]; exact (Below.refl _ w).alloc (by first | exact Nat.le_refl _ | (simp; done) | (simp; omega)) _
  have kx : w1.heap[w.heap.size]? = some (.cells #[.int .u64 seed, .slice (some ad) chs.length chc, .slice Ak cks.length ckc] 32 (0, 0)) := by rw [← hw1]; exact al_new _ _ _ (by first | rfl | (simp; done) | (simp; omega))
  have x0 : w1.cell? ⟨w.heap.size, 0, none⟩ = some (.int .u64 seed) := blk_cell kx 0
  have x1 : w1.cell? ⟨w.heap.size, 1, none⟩ = some (.slice (some ad) chs.length chc) := blk_cell kx 1
  have x2 : w1.cell? ⟨w.heap.size, 2, none⟩ = some (.slice Ak cks.length ckc) := blk_cell kx 2
  clear kx
  replace b0 := cell_on hB b0
  replace b1 := cell_on hB b1
  replace b2 := cell_on hB b2
  replace hv := hv.trans (hB.mono hv.size)
  clear hB hw1
  refine (c0 _ hv).mono ?_
  rintro en w2 ⟨rfl, hB⟩
  replace b0 := cell_on hB b0
  replace b1 := cell_on hB b1
  replace b2 := cell_on hB b2
  replace x0 := cell_on hB x0
  replace x1 := cell_on hB x1
  replace x2 := cell_on hB x2
  replace hv := hv.trans (hB.mono hv.size)
  clear hB c0
  go_wp2_with fail
  refine (c48 _).mono ?_
  rintro en w3 ⟨rfl, hB⟩
  replace b0 := cell_on hB b0
  replace b1 := cell_on hB b1
  replace b2 := cell_on hB b2
  replace x0 := cell_on hB x0
  replace x1 := cell_on hB x1
  replace x2 := cell_on hB x2
  replace hv := hv.trans (hB.mono hv.size)
  clear hB c48
  go_wp2_with fail
  refine (c57 _).mono ?_
  rintro en w4 ⟨rfl, hB⟩
  replace b0 := cell_on hB b0
  replace b1 := cell_on hB b1
  replace b2 := cell_on hB b2
  replace x0 := cell_on hB x0
  replace x1 := cell_on hB x1
  replace x2 := cell_on hB x2
  replace hv := hv.trans (hB.mono hv.size)
  clear hB c57
  go_wp2_with fail
  refine (c58 _).mono ?_
  rintro en w5 ⟨rfl, hB⟩
  replace b0 := cell_on hB b0
  replace b1 := cell_on hB b1
  replace b2 := cell_on hB b2
  replace x0 := cell_on hB x0
  replace x1 := cell_on hB x1
  replace x2 := cell_on hB x2
  replace hv := hv.trans (hB.mono hv.size)
  clear hB c58
  go_wp2_with fail
  go_ret2
  exact ⟨rfl, hv⟩
end Go.Proofs.YtlfnnalepdjagaaDoor.C
