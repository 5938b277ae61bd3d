/- Contracts of calendar.split and clock, by hand. -/
import Derived.OwnWalk
import Derived.Test.YtleipbanadnchaaDb
namespace Go.Proofs.Ytleipbanadnchaa.C
open Go.RowKit Go.Shelf Go.Maps Go.Proofs.YtleipbanadnchaaW.PrintWords Go.Proofs.YtleipbanadnchaaW.PrintLast Go.Proofs.YtleipbanadnchaaW.PrintMore
set_option linter.unusedVariables false
set_option linter.unusedSimpArgs false
set_option maxHeartbeats 2000000 in
set_option maxRecDepth 100000 in
theorem split_calls (kb : Nat) (b u : Int) (A : Option Addr) (c : Nat) (l : List (Int × Int)) (s D : Int) (w : World) (hc : CtAt w kb b A c u l) (hk : checkF b l u = 0) (hD : IsDay l u s D) :
    Calls Try.prog 84 #[.pointer (some ⟨kb, 0, none⟩), .int .i64 s] w fun e w' => e = .returned (.tuple #[.int .i64 D, .int .i64 (s - beginF l D)]) ∧ Below w.heap.size w w' := by
  obtain ⟨h1, h2, h3, h4, h5, h6⟩ := checkF_right hk
  have a115 := fun z w hc h0 h1 => begin_calls kb b u A c l z h0 h1 w hc h6 h5
  have HB := Aside0.mk (show ∀ z, (beginF l z ≤ s ↔ z ≤ D) from fun z => hD.begin_lt h6)
  have hkn := knowsB_iff.1 (hD.knows h6)
  have hbu := beginU hk
  have hgb := h6.take l.length u
  rw [List.take_length] at hgb
  have hsu : s < 86400 * (u - 41317) + 100 := by have := hkn.2; unfold beginF at this; omega
  have hD0 := hD.d0
  have hD1 := hD.d1
  have hbD : 0 ≤ beginF l D ∧ beginF l D ≤ s := by
    have := h6.mono hD.d0
    rw [h6.first] at this
    exact ⟨by omega, hD.lo⟩
  have hb0 := hkn.1
  have hb1 : s ≤ 1000000000000 := by omega
  have HC := Aside0.mk hc
  obtain ⟨_, _, hkx, _⟩ := hc
  have u2 : w.cell? ⟨kb, 2, none⟩ = some (.int .i64 u) := blk_cell hkx 2
  have hst : Aside0 ((41317 + s / 86400 < u → 41317 ≤ 41317 + s / 86400 ∧ 41317 + s / 86400 ≤ 100000) ∧ (41317 ≤ u - 1 ∧ u - 1 ≤ 100000)) := ⟨fun h => by omega, by omega⟩
  clear hkx h6 hk hD hkn hbu hgb hsu
  cases hlt : decide (u ≤ 41317 + s / 86400)
  all_goals
    have hq := hlt
    simp only [decide_eq_true_eq, decide_eq_false_iff_not] at hq
    go_enter Try.func84, Try.ntmps84
    go_wp2_with fail
    clear u2 hlt
    go_loopw [6] (fun v6 wr => ∃ z : Int, 41317 ≤ z ∧ z ≤ 100000 ∧ v6 = .int .i64 z ∧ Aside0 (Below w.heap.size w wr)) (fun v _ => (intOf v - D).toNat)
    case atStart => first
      | exact ⟨_, (hst.out.1 (by omega)).1, (hst.out.1 (by omega)).2, rfl, ⟨Below.refl _ _⟩⟩
      | exact ⟨_, hst.out.2.1, hst.out.2.2, rfl, ⟨Below.refl _ _⟩⟩
    case round =>
      obtain ⟨z, hz0, hz1, rfl, HW⟩ := hrel
      have hbz := HB.out z
      by_cases hle : z ≤ D
      · have d1 : decide (s < beginF l z) = false := decide_eq_false (by omega)
        go_wp2_with fail
        refine (a115 z _ (HC.out.below HW.out) (by omega) (by omega)).mono ?_
        rintro en w1 ⟨rfl, hB⟩
        have HW1 := Aside0.mk (HW.out.trans (hB.mono HW.out.size))
        clear hB hbz
        go_wp2_with fail
        go_loopw [6] (fun v6 wr2 => ∃ y : Int, 41317 ≤ y ∧ y ≤ D ∧ v6 = .int .i64 y ∧ Aside0 (Below w.heap.size w wr2)) (fun v _ => (D - intOf v).toNat)
        case atStart => exact ⟨z, hz0, hle, rfl, HW1⟩
        case round =>
          obtain ⟨y, hy0, hy1, rfl, HW2⟩ := hrel
          have hby := HB.out (y + 1)
          by_cases hlt2 : y + 1 ≤ D
          · have d2 : decide (beginF l (y + 1) ≤ s) = true := decide_eq_true (by omega)
            go_wp2_with fail
            refine (a115 (y + 1) _ (HC.out.below HW2.out) (by omega) (by omega)).mono ?_
            rintro en w3 ⟨rfl, hB⟩
            have HW3 := Aside0.mk (HW2.out.trans (hB.mono HW2.out.size))
            clear hB
            go_wp2
            go_roundw
            case rel => exact ⟨y + 1, by omega, by omega, rfl, HW3⟩
            case measure => simp [intOf]; omega
          · obtain rfl : y = D := by omega
            have d2 : decide (beginF l (y + 1) ≤ s) = false := decide_eq_false (by omega)
            go_wp2_with fail
            refine (a115 (y + 1) _ (HC.out.below HW2.out) (by omega) (by omega)).mono ?_
            rintro en w3 ⟨rfl, hB⟩
            have HW3 := Aside0.mk (HW2.out.trans (hB.mono HW2.out.size))
            clear hB
            go_wp2_with fail
            refine (a115 y _ (HC.out.below HW3.out) (by omega) (by omega)).mono ?_
            rintro en w4 ⟨rfl, hB⟩
            go_wp2
            go_ret2
            exact ⟨rfl, HW3.out.trans (hB.mono HW3.out.size)⟩
      · have d1 : decide (s < beginF l z) = true := decide_eq_true (by omega)
        go_wp2_with fail
        refine (a115 z _ (HC.out.below HW.out) (by omega) (by omega)).mono ?_
        rintro en w1 ⟨rfl, hB⟩
        have HW1 := Aside0.mk (HW.out.trans (hB.mono HW.out.size))
        clear hB
        go_wp2
        go_roundw
        case rel => exact ⟨z - 1, by omega, by omega, rfl, HW1⟩
        case measure => simp [intOf]; omega
theorem clock_calls (p : Value) (day n : Int) (h0 : 0 ≤ n) (h1 : n ≤ 1000000) (w : World) :
    Calls Try.prog 116 #[p, .int .i64 day, .int .i64 n] w fun e w' => e = .returned (.tuple #[.int .i64 (ckH n), .int .i64 (ckM n), .int .i64 (ckS n)]) ∧ w' = w := by
  unfold ckH ckM ckS
  by_cases h : 86400 ≤ n
  · have d1 : decide (86400 ≤ n) = true := decide_eq_true h
    rw [if_pos h, if_pos h, if_pos h]
    go_enter Try.func116, Try.ntmps116
    go_wp2
    go_ret3
    exact ⟨rfl, rfl⟩
  · have d1 : decide (86400 ≤ n) = false := decide_eq_false h
    rw [if_neg h, if_neg h, if_neg h]
    go_enter Try.func116, Try.ntmps116
    go_wp2
    go_ret3
    exact ⟨rfl, rfl⟩
end Go.Proofs.Ytleipbanadnchaa.C
