/- Contracts of the reference's month, Day and Civil, by hand. -/
import Derived.OwnWalk
import Derived.Test.YtleipbanadnchaaCf
namespace Go.Proofs.Ytleipbanadnchaa.C
open Go.RowKit Go.Shelf Go.Proofs.YtleipbanadnchaaW.PrintWords Go.Proofs.YtleipbanadnchaaW.PrintLast Go.Proofs.YtleipbanadnchaaW.PrintMore
set_option linter.unusedVariables false
set_option linter.unusedSimpArgs false
theorem month_calls (y m : Int) (hy0 : 1900 ≤ y) (hy1 : y ≤ 3000) (hm0 : 1 ≤ m) (hm1 : m ≤ 12) (w : World) :
    Calls Try.prog 105 #[.int .i64 y, .int .i64 m] w fun e w' => e = .returned (.int .i64 (mlen y m)) ∧ w' = w := by
  by_cases h2 : m = 2
  · subst h2
    cases hd : decide (y % 4 = 0)
    all_goals
      have hl : mlen y 2 = if y % 4 = 0 then 29 else 28 := by unfold mlen; rfl
      have hq := hd
      simp at hq
      rw [hl]
      first | rw [if_pos hq] | rw [if_neg hq]
      go_enter Try.func105, Try.ntmps105
      go_wp2
      go_ret
      exact ⟨rfl, rfl⟩
  · by_cases h4 : m = 4 ∨ m = 6 ∨ m = 9 ∨ m = 11
    · have hl : mlen y m = 30 := by unfold mlen; rw [if_neg h2, if_pos h4]
      rw [hl]
      rcases h4 with rfl | rfl | rfl | rfl
      all_goals
        go_enter Try.func105, Try.ntmps105
        go_wp2
        go_ret
        exact ⟨rfl, rfl⟩
    · have hl : mlen y m = 31 := by unfold mlen; rw [if_neg h2, if_neg h4]
      rw [hl]
      have h : m = 1 ∨ m = 3 ∨ m = 5 ∨ m = 7 ∨ m = 8 ∨ m = 10 ∨ m = 12 := by omega
      rcases h with rfl | rfl | rfl | rfl | rfl | rfl | rfl
      all_goals
        go_enter Try.func105, Try.ntmps105
        go_wp2
        go_ret
        exact ⟨rfl, rfl⟩
theorem ny_72 : ny 1972 = 41316 := by decide
set_option maxRecDepth 100000 in
theorem refDay_true (y m d : Int) (h : okD y m d = true) (w : World) :
    Calls Try.prog 44 #[.int .i64 y, .int .i64 m, .int .i64 d] w fun e w' => e = .returned (.tuple #[.int .i64 (dayN y m d), .int .i64 0]) ∧ Below w.heap.size w w' := by
  have h' := okD_iff.1 h
  have hmb := mlen_bound y m
  have a104 := fun w => rin_calls y 1972 2099 w
  have b104 := fun w => rin_calls m 1 12 w
  have c104 := fun w => rin_calls d 1 (mlen y m) w
  rw [show (decide (1972 ≤ y) && decide (y ≤ 2099)) = true by simp; omega] at a104
  rw [show (decide (1 ≤ m) && decide (m ≤ 12)) = true by simp; omega] at b104
  rw [show (decide (1 ≤ d) && decide (d ≤ mlen y m)) = true by simp; omega] at c104
  obtain ⟨p, rfl⟩ : ∃ p : Nat, m = (p : Int) + 1 := ⟨(m - 1).toNat, by omega⟩
  have hres : dayN y ((p : Int) + 1) d = ny y + cum y p + d := by unfold dayN; rw [show ((p : Int) + 1 - 1).toNat = p by omega]
  have HRS := Aside0.mk hres
  clear hres
  have HNY := Aside0.mk (show ∀ z, 1972 ≤ z → z ≤ y → 41316 ≤ ny z ∧ ny z ≤ 1000000 from fun z h1 h2 => by unfold ny; omega)
  have HNX := Aside0.mk ny_next
  have hp : p ≤ 11 := by omega
  go_enter Try.func44, Try.ntmps44
  go_wp2_with fail
  refine (a104 _).mono ?_
  rintro en w1 ⟨rfl, hB1⟩
  go_wp2_with fail
  refine (b104 _).mono ?_
  rintro en w2 ⟨rfl, hB2⟩
  go_wp2_with fail
  refine (month_calls y _ (by omega) (by omega) (by omega) (by omega) _).mono ?_
  rintro en w3 ⟨rfl, rfl⟩
  go_wp2_with fail
  refine (c104 _).mono ?_
  rintro en w4 ⟨rfl, hB3⟩
  have HB := Aside0.mk ((hB1.trans (hB2.mono hB1.size)).trans (hB3.mono (by have := hB1.size; have := hB2.size; omega)))
  clear a104 b104 c104 hB1 hB2 hB3
  go_wp2_with fail
  go_loopw [9, 8] (fun v9 v8 wr => ∃ z : Int, 1972 ≤ z ∧ z ≤ y ∧ v9 = .int .i64 z ∧ v8 = .int .i64 (ny z + 1) ∧ wr = w4) (fun v _ _ => (y - intOf v).toNat)
  case atStart => exact ⟨1972, by omega, by omega, rfl, by rw [ny_72]; rfl, rfl⟩
  case round =>
    obtain ⟨z, hz0, hz1, rfl, rfl, rfl⟩ := hrel
    have hnz := HNY.out z hz0 hz1
    by_cases hlt : z < y
    · have d1 : decide (z < y) = true := decide_eq_true hlt
      have HCB := Aside0.mk (cum_bound z)
      generalize hnn : ny z = nz at hnz
      have HNN := Aside0.mk hnn
      clear hnn
      go_wp2_with fail
      go_loopw [10, 8] (fun v10 v8 wr2 => ∃ k : Nat, k ≤ 12 ∧ v10 = .int .i64 ((k : Int) + 1) ∧ v8 = .int .i64 (nz + 1 + cum z k) ∧ wr2 = wr) (fun v _ _ => 13 - (intOf v).toNat)
      case atStart => exact ⟨0, by omega, rfl, by simp [cum], rfl⟩
      case round =>
        obtain ⟨k, hk, rfl, rfl, rfl⟩ := hrel
        have hcb := HCB.out k
        by_cases hlk : k < 12
        · have hml := mlen_bound z ((k : Int) + 1)
          have HS : Aside0 (cum z (k + 1) = cum z k + mlen z ((k : Int) + 1)) := ⟨rfl⟩
          have d2 : decide ((k : Int) + 1 ≤ 12) = true := decide_eq_true (by omega)
          go_wp2_with fail
          refine (month_calls z _ (by omega) (by omega) (by omega) (by omega) _).mono ?_
          rintro en w5 ⟨rfl, rfl⟩
          go_wp2
          go_roundw
          case rel => exact ⟨k + 1, by omega, by go_num, by rw [HS.out]; simp; omega, trivial⟩
          case measure => simp [intOf]; omega
        · obtain rfl : k = 12 := by omega
          go_wp2
          go_roundw
          case rel => exact ⟨z + 1, by omega, by omega, rfl, by rw [HNX.out, HNN.out]; simp; omega, trivial⟩
          case measure => simp [intOf]; omega
    · obtain rfl : z = y := by omega
      have d1 : decide (z < z) = false := by simp
      have HCB := Aside0.mk (cum_bound z)
      generalize hnn : ny z = nz at hnz
      have HNN := Aside0.mk hnn
      clear hnn
      go_wp2_with fail
      go_loopw [11, 8] (fun v10 v8 wr2 => ∃ k : Nat, k ≤ p ∧ v10 = .int .i64 ((k : Int) + 1) ∧ v8 = .int .i64 (nz + 1 + cum z k) ∧ wr2 = wr) (fun v _ _ => 13 - (intOf v).toNat)
      case atStart => exact ⟨0, by omega, rfl, by simp [cum], rfl⟩
      case round =>
        obtain ⟨k, hk, rfl, rfl, rfl⟩ := hrel
        have hcb := HCB.out k
        by_cases hlk : k < p
        · have hml := mlen_bound z ((k : Int) + 1)
          have HS : Aside0 (cum z (k + 1) = cum z k + mlen z ((k : Int) + 1)) := ⟨rfl⟩
          have d2 : decide ((k : Int) + 1 < (p : Int) + 1) = true := decide_eq_true (by omega)
          go_wp2_with fail
          refine (month_calls z _ (by omega) (by omega) (by omega) (by omega) _).mono ?_
          rintro en w5 ⟨rfl, rfl⟩
          go_wp2
          go_roundw
          case rel => exact ⟨k + 1, by omega, by go_num, by rw [HS.out]; simp; omega, trivial⟩
          case measure => simp [intOf]; omega
        · obtain rfl : k = p := by omega
          go_wp2
          go_ret2
          exact ⟨by rw [HRS.out, HNN.out]; simp; omega, HB.out⟩
end Go.Proofs.Ytleipbanadnchaa.C
