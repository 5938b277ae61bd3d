/- The contract of calendar.civil, by hand. -/
import Derived.OwnWalk
import Derived.Test.YtleipbanadnchaaCd
namespace Go.Proofs.Ytleipbanadnchaa.C
open Go.RowKit Go.Shelf Go.Proofs.YtleipbanadnchaaW.PrintWords Go.Proofs.YtleipbanadnchaaW.PrintLast Go.Proofs.YtleipbanadnchaaW.PrintMore
set_option linter.unusedVariables false
set_option linter.unusedSimpArgs false
set_option maxHeartbeats 4000000 in
set_option maxRecDepth 100000 in
theorem civil_walk (n Y M D : Int) (h0 : 41317 ≤ n) (h1 : n ≤ 88071) (hciv : IsCiv n Y M D) (hst : 1972 + (n - 41317) / 366 ≤ Y) (w : World) :
    Calls Try.prog 85 #[.int .i64 n] w fun e w' => e = .returned (.tuple #[.int .i64 Y, .int .i64 M, .int .i64 D]) ∧ Below w.heap.size w w' := by
  have a0 := hciv.y0
  have a1 := hciv.in_year
  have a3 := hciv.y1 h1
  have HU : Aside0 (∀ m d, IsCiv n Y m d → M = m ∧ D = d) := ⟨fun m d h => (h.unique hciv).2⟩
  have a2 : n ≤ ny Y + cum Y 12 := by rw [← ny_next]; exact a1.2.1
  have a4 := a1.1
  have a5 := a1.2.1
  have HNx := Aside0.mk (show ∀ z, z ≤ Y → (decide (ny (z + 1) < n) = true → z + 1 ≤ Y) ∧ (decide (ny (z + 1) < n) = false → z = Y) from fun z hz => ⟨fun hd => by
    have := of_decide_eq_true hd
    have := ny_neg (y := z + 1) (z := Y + 1) (by omega)
    omega, fun hd => by
    have hd := of_decide_eq_false hd
    rcases Int.lt_or_le z Y with c | c
    · have := ny_mono (y := z + 1) (z := Y) (by omega); omega
    · omega⟩)
  have HCB := Aside0.mk (cum_bound Y)
  have hYb : 41316 ≤ ny Y ∧ ny Y ≤ 1000000 := by unfold ny; omega
  clear hciv a1 a5
  go_enter Try.func85, Try.ntmps85
  go_wp2_with fail
  go_loopw [5] (fun v5 wr => ∃ z : Int, 1972 ≤ z ∧ z ≤ Y ∧ v5 = .int .i64 z ∧ wr = w) (fun v _ => (Y - intOf v).toNat)
  case atStart => exact ⟨_, by omega, hst, rfl, rfl⟩
  case round =>
    obtain ⟨z, hz0, hz1, rfl, rfl⟩ := hrel
    have hx := HNx.out z hz1
    cases hd : decide (ny (z + 1) < n)
    · obtain rfl := hx.2 hd
      clear hx hst hz0 hz1
      go_wp2_with fail
      refine (newYear_calls (z + 1) (by omega) (by omega) _).mono ?_
      rintro en w1 ⟨rfl, rfl⟩
      go_wp2_with fail
      refine (newYear_calls z (by omega) (by omega) _).mono ?_
      rintro en w1 ⟨rfl, rfl⟩
      clear hd
      go_wp2_with fail
      refine (months_calls z (by omega) (by omega) _).mono ?_
      rintro en w2 ⟨rfl, hB⟩
      go_wp2_with fail
      have hix := fun i h0 h1 w => index_mths z i h0 h1 w
      go_loopw [26, 0, 6] (fun v26 v0 v6 wr => ∃ i : Nat, i ≤ 11 ∧ v26 = .int .i64 i ∧ v0 = .int .i64 (n - ny z - cum z i) ∧ v6 = .int .i64 ((i : Int) + 1) ∧ Aside0 (cum z i < n - ny z) ∧ wr = w2) (fun v _ _ _ => 12 - (intOf v).toNat)
      case atStart => exact ⟨0, by omega, rfl, by simp [cum], rfl, ⟨by simp [cum]; omega⟩, rfl⟩
      case round =>
        obtain ⟨i, hi, rfl, rfl, rfl, HI, rfl⟩ := hrel
        have hxi := index_mths z i (by omega) (by omega)
        have hcb := HCB.out i
        have hml := mlen_bound z ((i : Int) + 1)
        have hci := HI.out
        have HS : Aside0 (cum z (i + 1) = cum z i + mlen z ((i : Int) + 1)) := ⟨rfl⟩
        have d0 : decide ((i : Int) < 12) = true := decide_eq_true (by omega)
        by_cases hle : n - ny z - cum z i ≤ mlen z ((i : Int) + 1)
        · have HV := HU.out ((i : Int) + 1) (n - ny z - cum z i) ⟨a0, by omega, by omega, by omega, hle, by unfold dayN; rw [show ((i : Int) + 1 - 1).toNat = i by omega]; omega⟩
          have d1 : decide (n - ny z - cum z i ≤ mlen z ((i : Int) + 1)) = true := decide_eq_true hle
          clear hle
          go_wp2
          go_ret3
          exact ⟨by rw [HV.1, HV.2]; rfl, hB⟩
        · have d1 : decide (n - ny z - cum z i ≤ mlen z ((i : Int) + 1)) = false := decide_eq_false hle
          have HLT : Aside0 (cum z (i + 1) < n - ny z) := ⟨by rw [HS.out]; omega⟩
          have hi11 : i + 1 ≤ 11 := by
            rcases Nat.lt_or_ge (i + 1) 12 with c | c
            · omega
            · obtain rfl : i = 11 := by omega
              have := HLT.out
              have e12 : cum z (11 + 1) = cum z 12 := rfl
              omega
          clear hle
          go_wp2
          go_roundw
          case rel => exact ⟨i + 1, by omega, by go_num, by rw [HS.out]; simp; omega, by go_num, HLT, trivial⟩
          case measure => simp [intOf]; omega
    · have hle := hx.1 hd
      go_wp2_with fail
      refine (newYear_calls (z + 1) (by omega) (by omega) _).mono ?_
      rintro en w1 ⟨rfl, rfl⟩
      go_wp2
      go_roundw
      case rel => exact ⟨z + 1, by omega, by omega, rfl, trivial⟩
      case measure => simp [intOf]; omega
theorem civil_calls (n : Int) (h0 : 41317 ≤ n) (h1 : n ≤ 88071) (w : World) :
    Calls Try.prog 85 #[.int .i64 n] w fun e w' => e = .returned (.tuple #[.int .i64 (cY n), .int .i64 (cM n), .int .i64 (cD n)]) ∧ Below w.heap.size w w' :=
  civil_walk n _ _ _ h0 h1 (civ_is h0 h1) (by unfold cY civY; split <;> omega) w
end Go.Proofs.Ytleipbanadnchaa.C
