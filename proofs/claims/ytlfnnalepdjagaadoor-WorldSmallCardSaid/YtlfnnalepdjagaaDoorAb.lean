/- Contracts of the world's small functions, by hand. -/
import Derived.OwnWalk
import Derived.BigRegion
import Derived.Deep.RegionHeld3
import Derived.Test.YtlfnnalepdjagaaDoorAa
namespace Go.Proofs.YtlfnnalepdjagaaDoor.C
open Go.RowKit Go.Shelf Go.Maps Go.Proofs.YtlfnnalepdjagaaDoorW.PrintWords Go.Proofs.YtlfnnalepdjagaaDoorW.PrintLast Go.Proofs.YtlfnnalepdjagaaDoorW.PrintMore
set_option linter.unusedVariables false
set_option linter.unusedSimpArgs false
/-- The error of a second. -/
def timedF (s : Int) : Int := if 0 ≤ s ∧ s ≤ 1000000 then 0 else 21
set_option maxHeartbeats 4000000 in
set_option maxRecDepth 100000 in
theorem timed_calls (s : Int) (w : World) :
    Calls Tryd.prog 57 #[.int .i64 s] w fun e w' => e = .returned (.int .i64 (timedF s)) ∧ Below w.heap.size w w' := by
  have c1 := fun w => win_calls s 0 1000000 w
  unfold timedF
  have hv := Below.refl w.heap.size w
  by_cases h : 0 ≤ s ∧ s ≤ 1000000
  · rw [if_pos h]
    rw [show (decide (0 ≤ s) && decide (s ≤ 1000000)) = true by simp; omega] at c1
    clear h
    go_enter Tryd.func57, Tryd.ntmps57
    go_wp2_with fail
    refine (c1 _).mono ?_
    rintro en w1 ⟨rfl, hB⟩
    go_wp2_with fail
    go_ret
    exact ⟨rfl, hB⟩
  · rw [if_neg h]
    rw [show (decide (0 ≤ s) && decide (s ≤ 1000000)) = false by simp; omega] at c1
    clear h
    go_enter Tryd.func57, Tryd.ntmps57
    go_wp2_with fail
    refine (c1 _).mono ?_
    rintro en w1 ⟨rfl, hB⟩
    go_wp2_with fail
    go_ret
    exact ⟨rfl, hB⟩
/-- A chamber's temperature. -/
def warmF (b sw p s : Int) : Int := b + 2 * sw * (if p < 2 * (s % p) then p - s % p else s % p) / p
theorem warm_mid {p s : Int} (hp : 2 ≤ p) (hs : 0 ≤ s) : 0 ≤ (if p < 2 * (s % p) then p - s % p else s % p) ∧ (if p < 2 * (s % p) then p - s % p else s % p) ≤ p / 2 := by
  have h1 := Int.emod_nonneg s (b := p) (by omega)
  have h2 := Int.emod_lt_of_pos s (show 0 < p by omega)
  split <;> omega
theorem warm_range {b sw p s : Int} (hb : 0 ≤ b ∧ b ≤ 1000000) (hw : 0 ≤ sw ∧ sw ≤ 100000) (hp : 2 ≤ p ∧ p ≤ 1000000) (hs : 0 ≤ s) : 0 ≤ warmF b sw p s ∧ warmF b sw p s ≤ 1100000 := by
  have hm := warm_mid hp.1 hs
  unfold warmF
  generalize (if p < 2 * (s % p) then p - s % p else s % p) = m at *
  have h1 : 0 ≤ 2 * sw * m := Int.mul_nonneg (by omega) hm.1
  have h2 : 2 * sw * m ≤ sw * p := by
    have h3 : sw * (2 * m) ≤ sw * p := Int.mul_le_mul_of_nonneg_left (by omega) (by omega)
    rw [Int.mul_comm 2 sw, Int.mul_assoc]; exact h3
  have h4 : 0 ≤ 2 * sw * m / p := Int.ediv_nonneg h1 (by omega)
  have h5 : 2 * sw * m / p ≤ sw * p / p := Int.ediv_le_ediv (by omega) h2
  rw [Int.mul_ediv_cancel _ (by omega)] at h5
  omega
set_option maxHeartbeats 4000000 in
set_option maxRecDepth 100000 in
theorem at_calls (b sw p s : Int) (w : World) (hb : 0 ≤ b ∧ b ≤ 1000000) (hw : 0 ≤ sw ∧ sw ≤ 100000) (hp : 2 ≤ p ∧ p ≤ 1000000) (hs : 0 ≤ s ∧ s ≤ 1000000) :
    Calls Tryd.prog 58 #[.agg #[.int .i64 b, .int .i64 sw, .int .i64 p], .int .i64 s] w fun e w' => e = .returned (.int .i64 (warmF b sw p s)) ∧ Below w.heap.size w w' := by
  have hr := warm_range hb hw hp hs.1
  have hm := warm_mid hp.1 hs.1
  unfold warmF at hr ⊢
  have e1 := Int.emod_nonneg s (b := p) (by omega)
  have e2 := Int.emod_lt_of_pos s (show 0 < p by omega)
  have e3 := Int.mul_ediv_add_emod s p
  have e4 : 0 ≤ s / p := Int.ediv_nonneg hs.1 (by omega)
  have e5 : s / p ≤ s := Int.ediv_le_self _ hs.1
  have t1 := Int.tmod_eq_emod_of_nonneg (a := s) hs.1 (b := p)
  have t2 := Int.tdiv_eq_ediv_of_nonneg (a := s) hs.1 (b := p)
  have z1 : p ≠ 0 := by omega
  have z2 : (p == 0) = false := beq_eq_false_iff_ne.2 z1
  have m0 : s / p * p = s - s % p := by rw [Int.mul_comm]; omega
  obtain ⟨q, hq⟩ : ∃ q, s % p = q := ⟨_, rfl⟩
  obtain ⟨k, hk⟩ : ∃ k, s / p = k := ⟨_, rfl⟩
  rw [hq] at hr hm e1 e2 e3 t1 m0 ⊢
  rw [hk] at e4 e5 t2 m0
  have e6 : s - (s - q) = q := by omega
  have u1 := wr q (by omega) (by omega)
  have u2 := wr (2 * q) (by omega) (by omega)
  have u2' := wr (q + q) (by omega) (by omega)
  have u3 := wr (p - q) (by omega) (by omega)
  have u4 := wr (2 * sw) (by omega) (by omega)
  have u5 := wr k (by omega) (by omega)
  have u6 := wr (s - q) (by omega) (by omega)
  have g1 : 0 ≤ sw * q ∧ sw * q ≤ 100000 * 1000000 := ⟨Int.mul_nonneg (by omega) (by omega), Int.mul_le_mul hw.2 (by omega) (by omega) (by omega)⟩
  have g2 : 0 ≤ sw * (p - q) ∧ sw * (p - q) ≤ 100000 * 1000000 := ⟨Int.mul_nonneg (by omega) (by omega), Int.mul_le_mul hw.2 (by omega) (by omega) (by omega)⟩
  have g3 : 2 * sw * q = sw * q * 2 := by rw [Int.mul_assoc, Int.mul_comm]
  have g4 : 2 * sw * (p - q) = sw * (p - q) * 2 := by rw [Int.mul_assoc, Int.mul_comm]
  have hv := Below.refl w.heap.size w
  by_cases h : p < 2 * q
  · rw [if_pos h] at hr ⊢
    have h2 : p < q + q := by omega
    have hd1 : decide (p < 2 * q) = true := decide_eq_true h
    have hd2 : decide (p < q + q) = true := decide_eq_true h2
    obtain ⟨M, hM⟩ : ∃ M, 2 * sw * (p - q) = M := ⟨_, rfl⟩
    rw [hM] at hr ⊢
    have uM := wr M (by omega) (by omega)
    have tM := Int.tdiv_eq_ediv_of_nonneg (a := M) (by omega) (b := p)
    obtain ⟨V, hV⟩ : ∃ V, M / p = V := ⟨_, rfl⟩
    rw [hV] at hr tM ⊢
    have uV := wr V (by omega) (by omega)
    have uV2 := wr (b + V) (by omega) (by omega)
    clear g1 g2 g3 g4 hV hq hk hm e3 m0 e6 u2' h2 hd2
    go_enter Tryd.func58, Tryd.ntmps58
    go_wp2_with fail
    obtain ⟨w1, hw1⟩ : ∃ w1, w.alloc (.cells #[.int .i64 b, .int .i64 sw, .int .i64 p] 53) = w1 := ⟨_, rfl⟩
    try rw [hw1]
    have hB : Below w.heap.size w w1 := by rw [← hw1]; exact (Below.refl _ w).alloc (by first | exact Nat.le_refl _ | (simp; done) | (simp; omega)) _
    have kx : w1.heap[w.heap.size]? = some (.cells #[.int .i64 b, .int .i64 sw, .int .i64 p] 53 (0, 0)) := by rw [← hw1]; exact al_new _ _ _ (by first | rfl | (simp; done) | (simp; omega))
    have x0 : w1.cell? ⟨w.heap.size, 0, none⟩ = some (.int .i64 b) := blk_cell kx 0
    have x1 : w1.cell? ⟨w.heap.size, 1, none⟩ = some (.int .i64 sw) := blk_cell kx 1
    have x2 : w1.cell? ⟨w.heap.size, 2, none⟩ = some (.int .i64 p) := blk_cell kx 2
    clear kx
    replace hv := hv.trans (hB.mono hv.size)
    clear hB hw1
    have hs0 := World.block_lt_of_cell? _ _ x0
    go_wp2_with fail
    go_region
    all_goals
      go_wp2
      go_ret
      exact ⟨rfl, by first | exact hv.drew | exact hv⟩
  · rw [if_neg h] at hr ⊢
    have h2 : ¬ p < q + q := by omega
    have hd1 : decide (p < 2 * q) = false := decide_eq_false h
    have hd2 : decide (p < q + q) = false := decide_eq_false h2
    obtain ⟨M, hM⟩ : ∃ M, 2 * sw * q = M := ⟨_, rfl⟩
    rw [hM] at hr ⊢
    have uM := wr M (by omega) (by omega)
    have tM := Int.tdiv_eq_ediv_of_nonneg (a := M) (by omega) (b := p)
    obtain ⟨V, hV⟩ : ∃ V, M / p = V := ⟨_, rfl⟩
    rw [hV] at hr tM ⊢
    have uV := wr V (by omega) (by omega)
    have uV2 := wr (b + V) (by omega) (by omega)
    clear g1 g2 g3 g4 hV hq hk hm e3 m0 e6 u2' h2 hd2
    go_enter Tryd.func58, Tryd.ntmps58
    go_wp2_with fail
    obtain ⟨w1, hw1⟩ : ∃ w1, w.alloc (.cells #[.int .i64 b, .int .i64 sw, .int .i64 p] 53) = w1 := ⟨_, rfl⟩
    try rw [hw1]
    have hB : Below w.heap.size w w1 := by rw [← hw1]; exact (Below.refl _ w).alloc (by first | exact Nat.le_refl _ | (simp; done) | (simp; omega)) _
    have kx : w1.heap[w.heap.size]? = some (.cells #[.int .i64 b, .int .i64 sw, .int .i64 p] 53 (0, 0)) := by rw [← hw1]; exact al_new _ _ _ (by first | rfl | (simp; done) | (simp; omega))
    have x0 : w1.cell? ⟨w.heap.size, 0, none⟩ = some (.int .i64 b) := blk_cell kx 0
    have x1 : w1.cell? ⟨w.heap.size, 1, none⟩ = some (.int .i64 sw) := blk_cell kx 1
    have x2 : w1.cell? ⟨w.heap.size, 2, none⟩ = some (.int .i64 p) := blk_cell kx 2
    clear kx
    replace hv := hv.trans (hB.mono hv.size)
    clear hB hw1
    have hs0 := World.block_lt_of_cell? _ _ x0
    go_wp2_with fail
    go_region
    all_goals
      go_wp2
      go_ret
      exact ⟨rfl, by first | exact hv.drew | exact hv⟩
set_option maxHeartbeats 4000000 in
set_option maxRecDepth 100000 in
theorem warmth_calls (b sw p s : Int) (w : World) (hb : 0 ≤ b ∧ b ≤ 1000000) (hw : 0 ≤ sw ∧ sw ≤ 100000) (hp : 2 ≤ p ∧ p ≤ 1000000) (hs : 0 ≤ s ∧ s ≤ 1000000) :
    Calls Tryd.prog 60 #[.agg #[.int .i64 b, .int .i64 sw, .int .i64 p], .int .i64 s] w fun e w' => e = .returned (.int .i64 (warmF b sw p s)) ∧ Below w.heap.size w w' := by
  have hr := warm_range hb hw hp hs.1
  have hm := warm_mid hp.1 hs.1
  unfold warmF at hr ⊢
  have e1 := Int.emod_nonneg s (b := p) (by omega)
  have e2 := Int.emod_lt_of_pos s (show 0 < p by omega)
  have e3 := Int.mul_ediv_add_emod s p
  have e4 : 0 ≤ s / p := Int.ediv_nonneg hs.1 (by omega)
  have e5 : s / p ≤ s := Int.ediv_le_self _ hs.1
  have t1 := Int.tmod_eq_emod_of_nonneg (a := s) hs.1 (b := p)
  have t2 := Int.tdiv_eq_ediv_of_nonneg (a := s) hs.1 (b := p)
  have z1 : p ≠ 0 := by omega
  have z2 : (p == 0) = false := beq_eq_false_iff_ne.2 z1
  have m0 : s / p * p = s - s % p := by rw [Int.mul_comm]; omega
  obtain ⟨q, hq⟩ : ∃ q, s % p = q := ⟨_, rfl⟩
  obtain ⟨k, hk⟩ : ∃ k, s / p = k := ⟨_, rfl⟩
  rw [hq] at hr hm e1 e2 e3 t1 m0 ⊢
  rw [hk] at e4 e5 t2 m0
  have e6 : s - (s - q) = q := by omega
  have u1 := wr q (by omega) (by omega)
  have u2 := wr (2 * q) (by omega) (by omega)
  have u2' := wr (q + q) (by omega) (by omega)
  have u3 := wr (p - q) (by omega) (by omega)
  have u4 := wr (2 * sw) (by omega) (by omega)
  have u5 := wr k (by omega) (by omega)
  have u6 := wr (s - q) (by omega) (by omega)
  have g1 : 0 ≤ sw * q ∧ sw * q ≤ 100000 * 1000000 := ⟨Int.mul_nonneg (by omega) (by omega), Int.mul_le_mul hw.2 (by omega) (by omega) (by omega)⟩
  have g2 : 0 ≤ sw * (p - q) ∧ sw * (p - q) ≤ 100000 * 1000000 := ⟨Int.mul_nonneg (by omega) (by omega), Int.mul_le_mul hw.2 (by omega) (by omega) (by omega)⟩
  have g3 : 2 * sw * q = sw * q * 2 := by rw [Int.mul_assoc, Int.mul_comm]
  have g4 : 2 * sw * (p - q) = sw * (p - q) * 2 := by rw [Int.mul_assoc, Int.mul_comm]
  have hv := Below.refl w.heap.size w
  by_cases h : p < 2 * q
  · rw [if_pos h] at hr ⊢
    have h2 : p < q + q := by omega
    have hd1 : decide (p < 2 * q) = true := decide_eq_true h
    have hd2 : decide (p < q + q) = true := decide_eq_true h2
    obtain ⟨M0, hM0⟩ : ∃ M0, sw * (p - q) = M0 := ⟨_, rfl⟩
    rw [g4, hM0] at hr ⊢
    have uM0 := wr M0 (by omega) (by omega)
    obtain ⟨M, hM⟩ : ∃ M, M0 * 2 = M := ⟨_, rfl⟩
    rw [hM] at hr ⊢
    have uM := wr M (by omega) (by omega)
    have tM := Int.tdiv_eq_ediv_of_nonneg (a := M) (by omega) (b := p)
    obtain ⟨V, hV⟩ : ∃ V, M / p = V := ⟨_, rfl⟩
    rw [hV] at hr tM ⊢
    have uV := wr V (by omega) (by omega)
    have uV2 := wr (b + V) (by omega) (by omega)
    clear g1 g2 g3 g4 hV hq hk hm e3 u2 h hd1
    go_enter Tryd.func60, Tryd.ntmps60
    go_wp2_with fail
    obtain ⟨w1, hw1⟩ : ∃ w1, w.alloc (.cells #[.int .i64 b, .int .i64 sw, .int .i64 p] 85) = w1 := ⟨_, rfl⟩
    try rw [hw1]
    have hB : Below w.heap.size w w1 := by rw [← hw1]; exact (Below.refl _ w).alloc (by first | exact Nat.le_refl _ | (simp; done) | (simp; omega)) _
    have kx : w1.heap[w.heap.size]? = some (.cells #[.int .i64 b, .int .i64 sw, .int .i64 p] 85 (0, 0)) := by rw [← hw1]; exact al_new _ _ _ (by first | rfl | (simp; done) | (simp; omega))
    have x0 : w1.cell? ⟨w.heap.size, 0, none⟩ = some (.int .i64 b) := blk_cell kx 0
    have x1 : w1.cell? ⟨w.heap.size, 1, none⟩ = some (.int .i64 sw) := blk_cell kx 1
    have x2 : w1.cell? ⟨w.heap.size, 2, none⟩ = some (.int .i64 p) := blk_cell kx 2
    clear kx
    replace hv := hv.trans (hB.mono hv.size)
    clear hB hw1
    have hs0 := World.block_lt_of_cell? _ _ x0
    go_wp2_with fail
    go_region
    all_goals
      go_wp2_with fail
      go_region
      all_goals
        go_wp2
        go_ret
        exact ⟨rfl, by first | exact hv.drew.drew | exact hv.drew | exact hv⟩
  · rw [if_neg h] at hr ⊢
    have h2 : ¬ p < q + q := by omega
    have hd1 : decide (p < 2 * q) = false := decide_eq_false h
    have hd2 : decide (p < q + q) = false := decide_eq_false h2
    obtain ⟨M0, hM0⟩ : ∃ M0, sw * q = M0 := ⟨_, rfl⟩
    rw [g3, hM0] at hr ⊢
    have uM0 := wr M0 (by omega) (by omega)
    obtain ⟨M, hM⟩ : ∃ M, M0 * 2 = M := ⟨_, rfl⟩
    rw [hM] at hr ⊢
    have uM := wr M (by omega) (by omega)
    have tM := Int.tdiv_eq_ediv_of_nonneg (a := M) (by omega) (b := p)
    obtain ⟨V, hV⟩ : ∃ V, M / p = V := ⟨_, rfl⟩
    rw [hV] at hr tM ⊢
    have uV := wr V (by omega) (by omega)
    have uV2 := wr (b + V) (by omega) (by omega)
    clear g1 g2 g3 g4 hV hq hk hm e3 u2 h hd1
    go_enter Tryd.func60, Tryd.ntmps60
    go_wp2_with fail
    obtain ⟨w1, hw1⟩ : ∃ w1, w.alloc (.cells #[.int .i64 b, .int .i64 sw, .int .i64 p] 85) = w1 := ⟨_, rfl⟩
    try rw [hw1]
    have hB : Below w.heap.size w w1 := by rw [← hw1]; exact (Below.refl _ w).alloc (by first | exact Nat.le_refl _ | (simp; done) | (simp; omega)) _
    have kx : w1.heap[w.heap.size]? = some (.cells #[.int .i64 b, .int .i64 sw, .int .i64 p] 85 (0, 0)) := by rw [← hw1]; exact al_new _ _ _ (by first | rfl | (simp; done) | (simp; omega))
    have x0 : w1.cell? ⟨w.heap.size, 0, none⟩ = some (.int .i64 b) := blk_cell kx 0
    have x1 : w1.cell? ⟨w.heap.size, 1, none⟩ = some (.int .i64 sw) := blk_cell kx 1
    have x2 : w1.cell? ⟨w.heap.size, 2, none⟩ = some (.int .i64 p) := blk_cell kx 2
    clear kx
    replace hv := hv.trans (hB.mono hv.size)
    clear hB hw1
    have hs0 := World.block_lt_of_cell? _ _ x0
    go_wp2_with fail
    go_region
    all_goals
      go_wp2_with fail
      go_region
      all_goals
        go_wp2
        go_ret
        exact ⟨rfl, by first | exact hv.drew.drew | exact hv.drew | exact hv⟩
end Go.Proofs.YtlfnnalepdjagaaDoor.C
