/- Draw of whatever numbers, own and the reference's. -/
import Derived.OwnWalk
import Derived.BigRegion
import Derived.WalkKit
import Derived.Deep.RegionHeld3
import Derived.Test.YtlfnnalepdjagaaDoorAh
namespace Go.Proofs.YtlfnnalepdjagaaDoor.C
open Go.RowKit Go.Shelf Go.Maps Go.Proofs.YtlfnnalepdjagaaDoorW.PrintWords Go.Proofs.YtlfnnalepdjagaaDoorW.PrintLast Go.Proofs.YtlfnnalepdjagaaDoorW.PrintMore
set_option linter.unusedVariables false
set_option linter.unusedSimpArgs false
theorem mixU2 (k : Int) (h0 : 0 ≤ k) (h1 : k ≤ 9223372036854775807) : IntKind.u64.wrap k = k := by rw [IntKind.wrap_u64]; omega
set_option maxHeartbeats 1000000 in
theorem draw_g (seed k c i m : Int) (w : World) (hk : 0 ≤ k ∧ k ≤ 9223372036854775807) (hc : 0 ≤ c ∧ c ≤ 9223372036854775807) (hi : 0 ≤ i ∧ i ≤ 9223372036854775807) (hm : 0 ≤ m ∧ m ≤ 1000000000000000) :
    Calls Tryd.prog 56 #[.int .u64 seed, .int .i64 k, .int .i64 c, .int .i64 i, .int .i64 m] w fun e w' => e = .returned (.int .i64 (drawF seed k c i m)) ∧ Below w.heap.size w w' := by
  have e1 := mixU2 k hk.1 hk.2
  have e2 := mixU2 c hc.1 hc.2
  have e3 := mixU2 i hi.1 hi.2
  have hr := mixF_range (mixF (mixF seed k) c) i
  have c1 := fun w => mix_calls seed k w
  have c2 := fun w => mix_calls (mixF seed k) c w
  have c3 := fun w => mix_calls (mixF (mixF seed k) c) i w
  unfold drawF
  generalize mixF (mixF (mixF seed k) c) i = z at *
  have t0 := Int.emod_nonneg z (b := 2 * m + 1) (by omega)
  have t1 := Int.emod_lt_of_pos z (b := 2 * m + 1) (by omega)
  have t2 := Int.tmod_eq_emod_of_nonneg (a := z) hr.1 (b := 2 * m + 1)
  have t3 := mixU2 (2 * m + 1) (by omega) (by omega)
  have hv := Below.refl w.heap.size w
  go_enter Tryd.func56, Tryd.ntmps56
  go_wp2_with fail
  refine (c1 _).mono ?_
  rintro en w1 ⟨rfl, hB⟩
  replace hv := hv.trans hB
  clear hB c1
  go_wp2_with fail
  refine (c2 _).mono ?_
  rintro en w2 ⟨rfl, hB⟩
  replace hv := hv.trans (hB.mono hv.size)
  clear hB c2
  go_wp2_with fail
  refine (c3 _).mono ?_
  rintro en w3 ⟨rfl, hB⟩
  replace hv := hv.trans (hB.mono hv.size)
  clear hB c3
  go_wp2_with fail
  go_ret
  exact ⟨rfl, hv⟩
set_option maxHeartbeats 1000000 in
theorem wdraw_g (seed k c i m : Int) (w : World) (hk : 0 ≤ k ∧ k ≤ 9223372036854775807) (hc : 0 ≤ c ∧ c ≤ 9223372036854775807) (hi : 0 ≤ i ∧ i ≤ 9223372036854775807) (hm : 0 ≤ m ∧ m ≤ 1000000000000000) :
    Calls Tryd.prog 20 #[.int .u64 seed, .int .i64 k, .int .i64 c, .int .i64 i, .int .i64 m] w fun e w' => e = .returned (.tuple #[.int .i64 (drawF seed k c i m), .int .i64 0]) ∧ Below w.heap.size w w' := by
  have ci := fun w => win_calls m 0 1000000000000000 w
  rw [show (decide (0 ≤ m) && decide (m ≤ 1000000000000000)) = true by simp; omega] at ci
  have cd := fun w => draw_g seed k c i m w hk hc hi hm
  have hv := Below.refl w.heap.size w
  go_enter Tryd.func20, Tryd.ntmps20
  go_wp2_with fail
  refine (ci _).mono ?_
  rintro en w1 ⟨rfl, hB⟩
  replace hv := hv.trans (hB.mono hv.size)
  clear hB ci
  go_wp2_with fail
  refine (cd _).mono ?_
  rintro en w2 ⟨rfl, hB⟩
  replace hv := hv.trans (hB.mono hv.size)
  clear hB cd
  go_wp2_with fail
  go_ret2
  exact ⟨rfl, hv⟩
set_option maxHeartbeats 1000000 in
theorem rdraw_g (seed k c i m : Int) (w : World) (hk : 0 ≤ k ∧ k ≤ 9223372036854775807) (hc : 0 ≤ c ∧ c ≤ 9223372036854775807) (hi : 0 ≤ i ∧ i ≤ 9223372036854775807) (hm : 0 ≤ m ∧ m ≤ 1000000000000000) :
    Calls Tryd.prog 40 #[.int .u64 seed, .int .i64 k, .int .i64 c, .int .i64 i, .int .i64 m] w fun e w' => e = .returned (.tuple #[.int .i64 (drawF seed k c i m), .int .i64 0]) ∧ Below w.heap.size w w' := by
  have e1 := mixU2 k hk.1 hk.2
  have e2 := mixU2 c hc.1 hc.2
  have e3 := mixU2 i hi.1 hi.2
  have hr := mixF_range (mixF (mixF seed k) c) i
  have c1 := fun w => rmix_calls seed k w
  have c2 := fun w => rmix_calls (mixF seed k) c w
  have c3 := fun w => rmix_calls (mixF (mixF seed k) c) i w
  unfold drawF
  generalize mixF (mixF (mixF seed k) c) i = z at *
  have t0 := Int.emod_nonneg z (b := 2 * m + 1) (by omega)
  have t1 := Int.emod_lt_of_pos z (b := 2 * m + 1) (by omega)
  have t2 := Int.tmod_eq_emod_of_nonneg (a := z) hr.1 (b := 2 * m + 1)
  have t3 := mixU2 (1 + 2 * m) (by omega)
  have t4 : 1 + 2 * m = 2 * m + 1 := by omega
  have hv := Below.refl w.heap.size w
  go_enter Tryd.func40, Tryd.ntmps40
  go_wp2_with fail
  refine (c1 _).mono ?_
  rintro en w1 ⟨rfl, hB⟩
  replace hv := hv.trans (hB.mono hv.size)
  clear hB c1
  go_wp2_with fail
  refine (c2 _).mono ?_
  rintro en w2 ⟨rfl, hB⟩
  replace hv := hv.trans (hB.mono hv.size)
  clear hB c2
  go_wp2_with fail
  refine (c3 _).mono ?_
  rintro en w3 ⟨rfl, hB⟩
  replace hv := hv.trans (hB.mono hv.size)
  clear hB c3
  go_wp2_with fail
  go_ret2
  exact ⟨rfl, hv⟩
/-- What Draw answers. -/
def drawR (seed k c i m : Int) : Int × Int := if (0 ≤ m ∧ m ≤ 1000000000000000) ∧ 0 ≤ k ∧ 0 ≤ c ∧ 0 ≤ i then (drawF seed k c i m, 0) else (0, 1)
set_option maxHeartbeats 4000000 in
set_option maxRecDepth 100000 in
theorem wdraw_all (seed k c i m : Int) (w : World) (hk : k ≤ 9223372036854775807) (hc : c ≤ 9223372036854775807) (hi : i ≤ 9223372036854775807) :
    Calls Tryd.prog 20 #[.int .u64 seed, .int .i64 k, .int .i64 c, .int .i64 i, .int .i64 m] w fun e w' => e = .returned (.tuple #[.int .i64 (drawR seed k c i m).1, .int .i64 (drawR seed k c i m).2]) ∧ Below w.heap.size w w' := by
  have hv := Below.refl w.heap.size w
  have c48 := fun w => win_calls m 0 1000000000000000 w
  by_cases g0 : (0 ≤ m ∧ m ≤ 1000000000000000)
  rotate_left
  · rw [show (decide (0 ≤ m) && decide (m ≤ 1000000000000000)) = false by simp; omega] at c48
    have HE : drawR seed k c i m = (0, 1) := by unfold drawR; rw [if_neg (by omega)]
    rw [HE]
    clear HE
    go_enter Tryd.func20, Tryd.ntmps20
    go_wp2_with fail
    refine (c48 _).mono ?_
    rintro en w1 ⟨rfl, hB⟩
    replace hv := hv.trans (hB.mono hv.size)
    clear hB c48
    go_wp2
    go_ret2
    exact ⟨rfl, hv⟩
  rw [show (decide (0 ≤ m) && decide (m ≤ 1000000000000000)) = true by simp; omega] at c48
  by_cases g1 : k < 0
  · have fg1 : decide (k < 0) = true := decide_eq_true g1
    have fg1' : decide (0 > k) = true := decide_eq_true g1
    have HE : drawR seed k c i m = (0, 1) := by unfold drawR; rw [if_neg (by omega)]
    rw [HE]
    clear HE
    go_enter Tryd.func20, Tryd.ntmps20
    go_wp2_with fail
    refine (c48 _).mono ?_
    rintro en w1 ⟨rfl, hB⟩
    replace hv := hv.trans (hB.mono hv.size)
    clear hB c48
    go_wp2
    go_ret2
    exact ⟨rfl, hv⟩
  have fg1 : decide (k < 0) = false := decide_eq_false g1
  have fg1' : decide (0 > k) = false := decide_eq_false g1
  by_cases g2 : c < 0
  · have fg2 : decide (c < 0) = true := decide_eq_true g2
    have fg2' : decide (0 > c) = true := decide_eq_true g2
    have HE : drawR seed k c i m = (0, 1) := by unfold drawR; rw [if_neg (by omega)]
    rw [HE]
    clear HE
    go_enter Tryd.func20, Tryd.ntmps20
    go_wp2_with fail
    refine (c48 _).mono ?_
    rintro en w1 ⟨rfl, hB⟩
    replace hv := hv.trans (hB.mono hv.size)
    clear hB c48
    go_wp2
    go_ret2
    exact ⟨rfl, hv⟩
  have fg2 : decide (c < 0) = false := decide_eq_false g2
  have fg2' : decide (0 > c) = false := decide_eq_false g2
  by_cases g3 : i < 0
  · have fg3 : decide (i < 0) = true := decide_eq_true g3
    have fg3' : decide (0 > i) = true := decide_eq_true g3
    have HE : drawR seed k c i m = (0, 1) := by unfold drawR; rw [if_neg (by omega)]
    rw [HE]
    clear HE
    go_enter Tryd.func20, Tryd.ntmps20
    go_wp2_with fail
    refine (c48 _).mono ?_
    rintro en w1 ⟨rfl, hB⟩
    replace hv := hv.trans (hB.mono hv.size)
    clear hB c48
    go_wp2
    go_ret2
    exact ⟨rfl, hv⟩
  have fg3 : decide (i < 0) = false := decide_eq_false g3
  have fg3' : decide (0 > i) = false := decide_eq_false g3
  have HE : drawR seed k c i m = (drawF seed k c i m, 0) := by unfold drawR; rw [if_pos (by omega)]
  rw [HE]
  exact wdraw_g seed k c i m w (by omega) (by omega) (by omega) g0
set_option maxHeartbeats 4000000 in
set_option maxRecDepth 100000 in
theorem rdraw_all (seed k c i m : Int) (w : World) (hk : k ≤ 9223372036854775807) (hc : c ≤ 9223372036854775807) (hi : i ≤ 9223372036854775807) :
    Calls Tryd.prog 40 #[.int .u64 seed, .int .i64 k, .int .i64 c, .int .i64 i, .int .i64 m] w fun e w' => e = .returned (.tuple #[.int .i64 (drawR seed k c i m).1, .int .i64 (drawR seed k c i m).2]) ∧ Below w.heap.size w w' := by
  have hv := Below.refl w.heap.size w
  by_cases h1 : m < 0
  · have fh1 : decide (m < 0) = true := decide_eq_true h1
    have fh1' : decide (0 > m) = true := decide_eq_true h1
    have HE : drawR seed k c i m = (0, 1) := by unfold drawR; rw [if_neg (by omega)]
    rw [HE]
    clear HE
    go_enter Tryd.func40, Tryd.ntmps40
    go_wp2
    go_ret2
    exact ⟨rfl, hv⟩
  have fh1 : decide (m < 0) = false := decide_eq_false h1
  have fh1' : decide (0 > m) = false := decide_eq_false h1
  by_cases h2 : 1000000000000000 < m
  · have fh2 : decide (1000000000000000 < m) = true := decide_eq_true h2
    have fh2' : decide (m > 1000000000000000) = true := decide_eq_true h2
    have HE : drawR seed k c i m = (0, 1) := by unfold drawR; rw [if_neg (by omega)]
    rw [HE]
    clear HE
    go_enter Tryd.func40, Tryd.ntmps40
    go_wp2
    go_ret2
    exact ⟨rfl, hv⟩
  have fh2 : decide (1000000000000000 < m) = false := decide_eq_false h2
  have fh2' : decide (m > 1000000000000000) = false := decide_eq_false h2
  by_cases g1 : k < 0
  · have fg1 : decide (k < 0) = true := decide_eq_true g1
    have fg1' : decide (0 > k) = true := decide_eq_true g1
    have HE : drawR seed k c i m = (0, 1) := by unfold drawR; rw [if_neg (by omega)]
    rw [HE]
    clear HE
    go_enter Tryd.func40, Tryd.ntmps40
    go_wp2
    go_ret2
    exact ⟨rfl, hv⟩
  have fg1 : decide (k < 0) = false := decide_eq_false g1
  have fg1' : decide (0 > k) = false := decide_eq_false g1
  by_cases g2 : c < 0
  · have fg2 : decide (c < 0) = true := decide_eq_true g2
    have fg2' : decide (0 > c) = true := decide_eq_true g2
    have HE : drawR seed k c i m = (0, 1) := by unfold drawR; rw [if_neg (by omega)]
    rw [HE]
    clear HE
    go_enter Tryd.func40, Tryd.ntmps40
    go_wp2
    go_ret2
    exact ⟨rfl, hv⟩
  have fg2 : decide (c < 0) = false := decide_eq_false g2
  have fg2' : decide (0 > c) = false := decide_eq_false g2
  by_cases g3 : i < 0
  · have fg3 : decide (i < 0) = true := decide_eq_true g3
    have fg3' : decide (0 > i) = true := decide_eq_true g3
    have HE : drawR seed k c i m = (0, 1) := by unfold drawR; rw [if_neg (by omega)]
    rw [HE]
    clear HE
    go_enter Tryd.func40, Tryd.ntmps40
    go_wp2
    go_ret2
    exact ⟨rfl, hv⟩
  have fg3 : decide (i < 0) = false := decide_eq_false g3
  have fg3' : decide (0 > i) = false := decide_eq_false g3
  have HE : drawR seed k c i m = (drawF seed k c i m, 0) := by unfold drawR; rw [if_pos (by omega)]
  rw [HE]
  exact rdraw_g seed k c i m w (by omega) (by omega) (by omega) (by omega)
end Go.Proofs.YtlfnnalepdjagaaDoor.C
