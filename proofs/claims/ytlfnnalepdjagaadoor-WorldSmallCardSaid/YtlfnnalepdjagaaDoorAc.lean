/- Contracts of the world's small functions, by hand. -/
import Derived.OwnWalk
import Derived.BigRegion
import Derived.Deep.RegionHeld3
import Derived.Test.YtlfnnalepdjagaaDoorAb
namespace Go.Proofs.YtlfnnalepdjagaaDoor.C
open Go.RowKit Go.Shelf Go.Maps Go.Proofs.YtlfnnalepdjagaaDoorW.PrintWords Go.Proofs.YtlfnnalepdjagaaDoorW.PrintLast Go.Proofs.YtlfnnalepdjagaaDoorW.PrintMore
set_option linter.unusedVariables false
set_option linter.unusedSimpArgs false
theorem blk_on {w w' : World} {o : Obj} {k : Nat} (h : Below w.heap.size w w') (hk : w.heap[k]? = some o) : w'.heap[k]? = some o := (h.block _ (Array.getElem?_eq_some_iff.1 hk).1).trans hk
theorem info65 : (Tryd.prog.info? 65).map (·.size) = some 2 := by kernel_rfl
theorem info35 : (Tryd.prog.info? 35).map (·.size) = some 2 := by kernel_rfl
theorem info69 : (Tryd.prog.info? 69).map (·.size) = some 2 := by kernel_rfl
set_option maxHeartbeats 4000000 in
set_option maxRecDepth 100000 in
theorem around_calls (n far : Int) (w : World) (hn : -2000000000000000000 ≤ n ∧ n ≤ 2000000000000000000) (hf : -2000000000000000000 ≤ far ∧ far ≤ 2000000000000000000) :
    Calls Tryd.prog 71 #[.int .i64 n, .int .i64 far] w fun e w' => e = .returned (.agg #[.int .i64 (n - far), .int .i64 (n + far)]) ∧ Below w.heap.size w w' := by
  have u1 := wr (n - far) (by omega) (by omega)
  have u2 := wr (n + far) (by omega) (by omega)
  have hv := Below.refl w.heap.size w
  go_enter Tryd.func71, Tryd.ntmps71
  go_wp2_with fail
  exact bodyPost_ret (results_cell_row rfl _ _ w.heap.size 65 _ (0, 0) _ rfl (al_new _ _ _ rfl) Tryd.underlying65 rfl info65) rfl ⟨rfl, hv.alloc (Nat.le_refl _) _⟩
/-- A moment: its second, and its femtoseconds. -/
def momF (s fs : Int) : Int × Int := (s + fs / 1000000000000000, fs % 1000000000000000)
set_option maxHeartbeats 4000000 in
set_option maxRecDepth 100000 in
theorem moment_calls (s fs : Int) (w : World) (hs : -2000000000000 ≤ s ∧ s ≤ 2000000000000) (hf : -9000000000000000000 ≤ fs ∧ fs ≤ 9000000000000000000) :
    Calls Tryd.prog 46 #[.int .i64 s, .int .i64 fs] w fun e w' => e = .returned (.agg #[.int .i64 (momF s fs).1, .int .i64 (momF s fs).2]) ∧ Below w.heap.size w w' := by
  have c1 := fun w => floor_calls fs 1000000000000000 w (by omega) hf
  have e1 := Int.mul_ediv_add_emod fs 1000000000000000
  have e2 := Int.emod_nonneg fs (b := 1000000000000000) (by omega)
  have e3 := Int.emod_lt_of_pos fs (show (0 : Int) < 1000000000000000 by omega)
  unfold momF
  simp only
  obtain ⟨q, hq⟩ : ∃ q, fs / 1000000000000000 = q := ⟨_, rfl⟩
  obtain ⟨r, hr⟩ : ∃ r, fs % 1000000000000000 = r := ⟨_, rfl⟩
  rw [hq] at c1 e1 ⊢
  rw [hr] at e1 e2 e3 ⊢
  have u1 := wr (q * 1000000000000000) (by omega) (by omega)
  have u2 := wr (s + q) (by omega) (by omega)
  have e4 : fs - q * 1000000000000000 = r := by omega
  have u3 := wr r (by omega) (by omega)
  clear hq hr e1
  have hv := Below.refl w.heap.size w
  go_enter Tryd.func46, Tryd.ntmps46
  go_wp2_with fail
  obtain ⟨w1, hw1⟩ : ∃ w1, w.alloc (.cells #[.int .i64 0, .int .i64 0] 35) = w1 := ⟨_, rfl⟩
  try rw [hw1]
  have kr : w1.heap[w.heap.size]? = some (.cells #[.int .i64 0, .int .i64 0] 35 (0, 0)) := by rw [← hw1]; exact al_new _ _ _ rfl
  have hv1 : Below w.heap.size w w1 := by rw [← hw1]; exact hv.alloc (Nat.le_refl _) _
  clear hw1
  refine (c1 _).mono ?_
  rintro en w2 ⟨rfl, hB⟩
  replace kr := blk_on hB kr
  replace hv := hv1.trans (hB.mono hv1.size)
  clear hB c1
  have r0 : w2.cell? ⟨w.heap.size, 0, none⟩ = some (.int .i64 0) := blk_cell kr 0
  have r1 : w2.cell? ⟨w.heap.size, 1, none⟩ = some (.int .i64 0) := blk_cell kr 1
  have z0 := blk_frozen kr 0
  have z1 := blk_frozen kr 1
  go_wp2_with fail
  exact bodyPost_ret (results_cell_row rfl _ _ w.heap.size 35 _ (0, 0) _ rfl (blk_put (blk_put kr 0 _ rfl) 1 _ rfl) Tryd.underlying35 rfl info35) rfl ⟨rfl, (hv.setCell (by simp) _).setCell (by simp) _⟩
set_option maxHeartbeats 4000000 in
set_option maxRecDepth 100000 in
theorem kicked_calls (wh at_ sz s : Int) (w : World) (ha : 0 ≤ at_ ∧ at_ ≤ 1000000) (hz : -10000000000 ≤ sz ∧ sz ≤ 10000000000) (hs : 0 ≤ s ∧ s ≤ 1000000) (hl : at_ ≤ s) :
    Calls Tryd.prog 83 #[.agg #[.int .i64 wh, .int .i64 at_, .int .i64 sz], .int .i64 s] w fun e w' => e = .returned (.tuple #[.int .i64 (sz * (s - at_)), .int .i64 0]) ∧ Below w.heap.size w w' := by
  have u1 := wr (s - at_) (by omega) (by omega)
  have m1 : -(10000000000 * 1000000) ≤ sz * (s - at_) ∧ sz * (s - at_) ≤ 10000000000 * 1000000 := by
    have h1 : sz * (s - at_) ≤ 10000000000 * (s - at_) := Int.mul_le_mul_of_nonneg_right (by omega) (by omega)
    have h2 : (-10000000000) * (s - at_) ≤ sz * (s - at_) := Int.mul_le_mul_of_nonneg_right (by omega) (by omega)
    omega
  have u2 := wr (sz * (s - at_)) (by omega) (by omega)
  have hv := Below.refl w.heap.size w
  go_enter Tryd.func83, Tryd.ntmps83
  go_wp2
  go_ret2
  exact ⟨rfl, hv.alloc (Nat.le_refl _) _⟩
set_option maxHeartbeats 4000000 in
set_option maxRecDepth 100000 in
theorem stepped_calls (wh at_ sz s : Int) (w : World) :
    Calls Tryd.prog 84 #[.agg #[.int .i64 wh, .int .i64 at_, .int .i64 sz], .int .i64 s] w fun e w' => e = .returned (.tuple #[.int .i64 0, .int .i64 sz]) ∧ Below w.heap.size w w' := by
  have hv := Below.refl w.heap.size w
  go_enter Tryd.func84, Tryd.ntmps84
  go_wp2_with fail
  obtain ⟨w1, hw1⟩ : ∃ w1, w.alloc (.cells #[.int .i64 wh, .int .i64 at_, .int .i64 sz] 51) = w1 := ⟨_, rfl⟩
  try rw [hw1]
  have kr : w1.heap[w.heap.size]? = some (.cells #[.int .i64 wh, .int .i64 at_, .int .i64 sz] 51 (0, 0)) := by rw [← hw1]; exact al_new _ _ _ rfl
  have hv1 : Below w.heap.size w w1 := by rw [← hw1]; exact hv.alloc (Nat.le_refl _) _
  have r2 : w1.cell? ⟨w.heap.size, 2, none⟩ = some (.int .i64 sz) := blk_cell kr 2
  clear hw1
  go_region
  all_goals
    go_wp2
    go_ret2
    exact ⟨rfl, by first | exact hv1.drew | exact hv1⟩
set_option maxHeartbeats 4000000 in
set_option maxRecDepth 100000 in
theorem nothing_calls (wh at_ sz s : Int) (w : World) :
    Calls Tryd.prog 85 #[.agg #[.int .i64 wh, .int .i64 at_, .int .i64 sz], .int .i64 s] w fun e w' => e = .returned (.tuple #[.int .i64 0, .int .i64 0]) ∧ Below w.heap.size w w' := by
  have hv := Below.refl w.heap.size w
  go_enter Tryd.func85, Tryd.ntmps85
  go_wp2
  go_ret2
  exact ⟨rfl, hv.alloc (Nat.le_refl _) _⟩
set_option maxHeartbeats 4000000 in
set_option maxRecDepth 100000 in
theorem within_calls (n m : Int) (w : World) (hm : 0 ≤ m ∧ m ≤ 1000000000000000) :
    Calls Tryd.prog 81 #[.int .i64 n, .int .i64 m] w fun e w' => e = .returned (.bool (decide (-m ≤ n) && decide (n ≤ m))) ∧ Below w.heap.size w w' := by
  have u1 := wr (-m) (by omega) (by omega)
  have hv := Below.refl w.heap.size w
  cases h1 : decide (-m ≤ n)
  · go_enter Tryd.func81, Tryd.ntmps81
    go_wp2
    go_ret
    exact ⟨rfl, hv⟩
  · cases h2 : decide (n ≤ m)
    all_goals
      go_enter Tryd.func81, Tryd.ntmps81
      go_wp2
      go_ret
      exact ⟨rfl, hv⟩
set_option maxHeartbeats 4000000 in
set_option maxRecDepth 100000 in
theorem down_calls (a b : Int) (w : World) (hb : 0 < b) (hb2 : b ≤ 1000000) (ha : -9000000000000000000 ≤ a ∧ a ≤ 9000000000000000000) :
    Calls Tryd.prog 82 #[.int .i64 a, .int .i64 b] w fun e w' => e = .returned (.int .i64 (a / b)) ∧ Below w.heap.size w w' := by
  have z1 : b ≠ 0 := by omega
  have z2 : (b == 0) = false := beq_eq_false_iff_ne.2 z1
  have e1 := Int.mul_ediv_add_emod a b
  have e2 := Int.emod_nonneg a (b := b) (by omega)
  have e3 := Int.emod_lt_of_pos a hb
  have hv := Below.refl w.heap.size w
  by_cases h : 0 ≤ a
  · have t1 := Int.tdiv_eq_ediv_of_nonneg (a := a) h (b := b)
    have e4 : 0 ≤ a / b := Int.ediv_nonneg h (by omega)
    have e5 : a / b ≤ a := Int.ediv_le_self _ h
    obtain ⟨q, hq⟩ : ∃ q, a / b = q := ⟨_, rfl⟩
    rw [hq] at t1 e4 e5 ⊢
    have u1 := wr q (by omega) (by omega)
    clear hq e1 e2 e3
    go_enter Tryd.func82, Tryd.ntmps82
    go_wp2
    go_ret
    exact ⟨rfl, hv⟩
  · have u1 := wr (-a) (by omega) (by omega)
    have u2 := wr (-a + b) (by omega) (by omega)
    have u3 := wr (-a + b - 1) (by omega) (by omega)
    have t1 := Int.tdiv_eq_ediv_of_nonneg (a := -a + b - 1) (by omega) (b := b)
    have key : (-a + b - 1) / b = -(a / b) := by
      obtain ⟨q, hq⟩ : ∃ q, a / b = q := ⟨_, rfl⟩
      obtain ⟨r, hr⟩ : ∃ r, a % b = r := ⟨_, rfl⟩
      rw [hq, hr] at e1
      rw [hr] at e2 e3
      rw [hq]
      have e : -a + b - 1 = (b - 1 - r) + b * -q := by rw [Int.mul_neg]; omega
      rw [e, Int.add_mul_ediv_left _ _ z1, Int.ediv_eq_zero_of_lt (by omega) (by omega)]
      omega
    rw [key] at t1
    have e4 : 0 ≤ -a / b := Int.ediv_nonneg (by omega) (by omega)
    have e5 : (-a + b - 1) / b ≤ -a + b - 1 := Int.ediv_le_self _ (by omega)
    have e6 : 0 ≤ (-a + b - 1) / b := Int.ediv_nonneg (by omega) (by omega)
    rw [key] at e5 e6
    obtain ⟨q, hq⟩ : ∃ q, a / b = q := ⟨_, rfl⟩
    rw [hq] at t1 e5 e6 ⊢
    have u4 := wr (-q) (by omega) (by omega)
    have e7 : - -q = q := by omega
    have u5 := wr q (by omega) (by omega)
    clear hq e1 e2 e3 key e4
    go_enter Tryd.func82, Tryd.ntmps82
    go_wp2
    go_ret
    exact ⟨by first | rfl | rw [e7], hv⟩
set_option maxHeartbeats 4000000 in
set_option maxRecDepth 100000 in
theorem At_calls (s fs : Int) (w : World) (hs : -2000000000000 ≤ s ∧ s ≤ 2000000000000) (hf : -1000000000000000 ≤ fs ∧ fs < 1000000000000000) :
    Calls Tryd.prog 73 #[.int .i64 s, .int .i64 fs] w fun e w' => e = .returned (.agg #[.int .i64 (momF s fs).1, .int .i64 (momF s fs).2]) ∧ Below w.heap.size w w' := by
  unfold momF
  have hv := Below.refl w.heap.size w
  by_cases h : fs < 0
  · have e1 : s + fs / 1000000000000000 = s - 1 := by omega
    have e2 : fs % 1000000000000000 = fs + 1000000000000000 := by omega
    rw [e1, e2]
    have u1 := wr (s - 1) (by omega) (by omega)
    have u2 := wr (fs + 1000000000000000) (by omega) (by omega)
    clear e1 e2
    go_enter Tryd.func73, Tryd.ntmps73
    go_wp2_with fail
    exact bodyPost_ret (results_cell_row rfl _ _ w.heap.size 69 _ (0, 0) _ rfl (al_new _ _ _ rfl) Tryd.underlying69 rfl info69) rfl ⟨rfl, hv.alloc (Nat.le_refl _) _⟩
  · have e1 : s + fs / 1000000000000000 = s := by omega
    have e2 : fs % 1000000000000000 = fs := by omega
    rw [e1, e2]
    clear e1 e2
    go_enter Tryd.func73, Tryd.ntmps73
    go_wp2_with fail
    exact bodyPost_ret (results_cell_row rfl _ _ w.heap.size 69 _ (0, 0) _ rfl (al_new _ _ _ rfl) Tryd.underlying69 rfl info69) rfl ⟨rfl, hv.alloc (Nat.le_refl _) _⟩
/-- A moment is after another one. -/
def afterF (a b c d : Int) : Bool := decide (c < a) || (decide (a = c) && decide (d < b))
set_option maxHeartbeats 4000000 in
set_option maxRecDepth 100000 in
theorem After_calls (a b c d : Int) (w : World) :
    Calls Tryd.prog 74 #[.agg #[.int .i64 a, .int .i64 b], .agg #[.int .i64 c, .int .i64 d]] w fun e w' => e = .returned (.bool (afterF a b c d)) ∧ Below w.heap.size w w' := by
  unfold afterF
  have hv := Below.refl w.heap.size w
  by_cases h1 : c < a
  · have h1d : decide (c < a) = true := decide_eq_true h1
    go_enter Tryd.func74, Tryd.ntmps74
    go_wp2
    go_ret
    exact ⟨by first | rfl | (rw [h1d]; rfl) | simp [h1], (hv.alloc (Nat.le_refl _) _).alloc (by simp) _⟩
  · have h1d : decide (c < a) = false := decide_eq_false h1
    by_cases h2 : a = c
    · subst h2
      go_enter Tryd.func74, Tryd.ntmps74
      go_wp2
      go_ret
      exact ⟨by first | rfl | simp [h1], (hv.alloc (Nat.le_refl _) _).alloc (by simp) _⟩
    · have h2d : (a == c) = false := beq_eq_false_iff_ne.2 h2
      go_enter Tryd.func74, Tryd.ntmps74
      go_wp2
      go_ret
      exact ⟨by first | rfl | simp [h1, h2], (hv.alloc (Nat.le_refl _) _).alloc (by simp) _⟩
end Go.Proofs.YtlfnnalepdjagaaDoor.C
