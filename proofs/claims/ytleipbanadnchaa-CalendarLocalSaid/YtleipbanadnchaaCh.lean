/- Contracts of the reference's Day, Civil, Weekday and Week, by hand. -/
import Derived.OwnWalk
import Derived.Test.YtleipbanadnchaaCg
namespace Go.Proofs.Ytleipbanadnchaa.C
open Go.RowKit Go.Shelf Go.Proofs.YtleipbanadnchaaW.PrintWords Go.Proofs.YtleipbanadnchaaW.PrintLast Go.Proofs.YtleipbanadnchaaW.PrintMore
set_option linter.unusedVariables false
set_option linter.unusedSimpArgs false
set_option maxRecDepth 100000 in
theorem refDay_false (y m d : Int) (h : okD y m d = false) (w : World) :
    Calls Try.prog 44 #[.int .i64 y, .int .i64 m, .int .i64 d] w fun e w' => e = .returned (.tuple #[.int .i64 0, .int .i64 90]) ∧ Below w.heap.size w w' := by
  have a104 := fun w => rin_calls y 1972 2099 w
  have b104 := fun w => rin_calls m 1 12 w
  have c104 := fun w => rin_calls d 1 (mlen y m) w
  have h' : ¬ (1972 ≤ y ∧ y ≤ 2099 ∧ 1 ≤ m ∧ m ≤ 12 ∧ 1 ≤ d ∧ d ≤ mlen y m) := fun hh => by rw [okD_iff.2 hh] at h; cases h
  by_cases h1 : 1972 ≤ y ∧ y ≤ 2099
  · rw [show (decide (1972 ≤ y) && decide (y ≤ 2099)) = true by simp; omega] at a104
    by_cases h2 : 1 ≤ m ∧ m ≤ 12
    · rw [show (decide (1 ≤ m) && decide (m ≤ 12)) = true by simp; omega] at b104
      rw [show (decide (1 ≤ d) && decide (d ≤ mlen y m)) = false by simp; omega] at c104
      clear h h'
      go_enter Try.func44, Try.ntmps44
      go_wp2_with fail
      refine (a104 _).mono ?_
      rintro en w1 ⟨rfl, hB1⟩
      go_wp2_with fail
      refine (b104 _).mono ?_
      rintro en w2 ⟨rfl, hB2⟩
      go_wp2_with fail
      refine (month_calls y _ (by omega) (by omega) (by omega) (by omega) _).mono ?_
      rintro en w3 ⟨rfl, rfl⟩
      go_wp2_with fail
      refine (c104 _).mono ?_
      rintro en w4 ⟨rfl, hB3⟩
      go_wp2
      go_ret2
      exact ⟨rfl, (hB1.trans (hB2.mono hB1.size)).trans (hB3.mono (by have := hB1.size; have := hB2.size; omega))⟩
    · rw [show (decide (1 ≤ m) && decide (m ≤ 12)) = false by simp; omega] at b104
      clear h h'
      go_enter Try.func44, Try.ntmps44
      go_wp2_with fail
      refine (a104 _).mono ?_
      rintro en w1 ⟨rfl, hB1⟩
      go_wp2_with fail
      refine (b104 _).mono ?_
      rintro en w2 ⟨rfl, hB2⟩
      go_wp2
      go_ret2
      exact ⟨rfl, hB1.trans (hB2.mono hB1.size)⟩
  · rw [show (decide (1972 ≤ y) && decide (y ≤ 2099)) = false by simp; omega] at a104
    clear h h'
    go_enter Try.func44, Try.ntmps44
    go_wp2_with fail
    refine (a104 _).mono ?_
    rintro en w1 ⟨rfl, hB1⟩
    go_wp2
    go_ret2
    exact ⟨rfl, hB1⟩
theorem refDay_calls (y m d : Int) (w : World) :
    Calls Try.prog 44 #[.int .i64 y, .int .i64 m, .int .i64 d] w fun e w' => e = .returned (.tuple #[.int .i64 (dayV y m d), .int .i64 (dayE y m d)]) ∧ Below w.heap.size w w' := by
  unfold dayV dayE
  cases h : okD y m d
  · exact refDay_false y m d h w
  · exact refDay_true y m d h w
theorem rknown_calls (n : Int) (w : World) : Calls Try.prog 104 #[.int .i64 n, .int .i64 41317, .int .i64 88068] w fun e w' => e = .returned (.bool (knownB n)) ∧ Below w.heap.size w w' := rin_calls n 41317 88068 w
set_option maxHeartbeats 1000000 in
set_option maxRecDepth 100000 in
theorem refCivil_true (n Y M D : Int) (h0 : 41317 ≤ n) (h1 : n ≤ 88068) (hciv : IsCiv n Y M D) (w : World) :
    Calls Try.prog 45 #[.int .i64 n] w fun e w' => e = .returned (.tuple #[.int .i64 Y, .int .i64 M, .int .i64 D, .int .i64 0]) ∧ Below w.heap.size w w' := by
  have a104 := fun w => rknown_calls n w
  rw [knownB_iff.2 ⟨h0, h1⟩] at a104
  have HU := Aside0.mk (show ∀ y m d, IsCiv n y m d → Y = y ∧ M = m ∧ D = d from fun y m d h => h.unique hciv)
  have HNX := Aside0.mk ny_next
  clear hciv
  go_enter Try.func45, Try.ntmps45
  go_wp2_with fail
  refine (a104 _).mono ?_
  rintro en w1 ⟨rfl, hB1⟩
  clear a104
  go_wp2_with fail
  go_loopw [6, 7, 8] (fun v6 v7 v8 wr => ∃ (z : Int) (k : Nat), 1972 ≤ z ∧ k ≤ 11 ∧ v6 = .int .i64 (n - ny z - 1 - cum z k) ∧ v7 = .int .i64 z ∧ v8 = .int .i64 ((k : Int) + 1) ∧ Aside0 (cum z k < n - ny z) ∧ wr = w1) (fun v _ _ _ => (intOf v).toNat)
  case atStart => exact ⟨1972, 0, by omega, by omega, by rw [ny_72]; simp [cum]; omega, rfl, rfl, ⟨by rw [ny_72]; simp [cum]; omega⟩, rfl⟩
  case round =>
    obtain ⟨z, k, hz, hk, rfl, rfl, rfl, HI, rfl⟩ := hrel
    have hcb := cum_bound z k
    have hlt := HI.out
    have hz1 : z ≤ 2200 ∧ 41316 ≤ ny z := by unfold ny at *; omega
    have hml := mlen_bound z ((k : Int) + 1)
    have HS : Aside0 (cum z (k + 1) = cum z k + mlen z ((k : Int) + 1)) := ⟨rfl⟩
    by_cases hle : mlen z ((k : Int) + 1) ≤ n - ny z - 1 - cum z k
    · have d1 : decide (mlen z ((k : Int) + 1) ≤ n - ny z - 1 - cum z k) = true := decide_eq_true hle
      have HI2 : Aside0 (cum z (k + 1) < n - ny z) := ⟨by rw [HS.out]; omega⟩
      by_cases hk11 : k = 11
      · have d2 : ((k : Int) + 1 + 1 == 13) = true := beq_iff_eq.2 (by omega)
        have HN1 : Aside0 (ny (z + 1) = ny z + cum z (k + 1)) := ⟨by rw [hk11]; exact HNX.out z⟩
        have HC0 : Aside0 (cum (z + 1) 0 = 0) := ⟨rfl⟩
        clear hk11
        go_wp2_with fail
        refine (month_calls z _ (by omega) (by omega) (by omega) (by omega) _).mono ?_
        rintro en w2 ⟨rfl, rfl⟩
        go_wp2_with fail
        refine (month_calls z _ (by omega) (by omega) (by omega) (by omega) _).mono ?_
        rintro en w2 ⟨rfl, rfl⟩
        go_wp2
        go_roundw
        case rel => exact ⟨z + 1, 0, by omega, by omega, by rw [HN1.out, HS.out, HC0.out]; simp; omega, rfl, rfl, ⟨by have := HI2.out; rw [HN1.out, HC0.out]; omega⟩, trivial⟩
        case measure => simp [intOf]; omega
      · have d2 : ((k : Int) + 1 + 1 == 13) = false := beq_eq_false_iff_ne.2 (by omega)
        go_wp2_with fail
        refine (month_calls z _ (by omega) (by omega) (by omega) (by omega) _).mono ?_
        rintro en w2 ⟨rfl, rfl⟩
        go_wp2_with fail
        refine (month_calls z _ (by omega) (by omega) (by omega) (by omega) _).mono ?_
        rintro en w2 ⟨rfl, rfl⟩
        go_wp2
        go_roundw
        case rel => exact ⟨z, k + 1, by omega, by omega, by rw [HS.out]; simp; omega, rfl, by go_num, HI2, trivial⟩
        case measure => simp [intOf]; omega
    · have d1 : decide (mlen z ((k : Int) + 1) ≤ n - ny z - 1 - cum z k) = false := decide_eq_false hle
      have HV := HU.out z ((k : Int) + 1) (n - ny z - 1 - cum z k + 1) ⟨hz, by omega, by omega, by omega, by omega, by unfold dayN; rw [show ((k : Int) + 1 - 1).toNat = k by omega]; omega⟩
      go_wp2_with fail
      refine (month_calls z _ (by omega) (by omega) (by omega) (by omega) _).mono ?_
      rintro en w2 ⟨rfl, rfl⟩
      go_wp2
      exact bodyPost_ret (results_tmp4 rfl _ _ _) rfl ⟨by rw [HV.1, HV.2.1, HV.2.2]; rfl, hB1⟩
theorem refCivil_calls (n : Int) (w : World) :
    Calls Try.prog 45 #[.int .i64 n] w fun e w' => e = .returned (.tuple #[.int .i64 (kv n (cY n)), .int .i64 (kv n (cM n)), .int .i64 (kv n (cD n)), .int .i64 (ke n)]) ∧ Below w.heap.size w w' := by
  unfold kv ke
  cases h : knownB n
  · have a104 := fun w => rknown_calls n w
    rw [h] at a104
    go_enter Try.func45, Try.ntmps45
    go_wp2_with fail
    refine (a104 _).mono ?_
    rintro en w1 ⟨rfl, hB⟩
    go_wp2
    exact bodyPost_ret (results_tmp4 rfl _ _ _) rfl ⟨rfl, hB⟩
  · have h' := knownB_iff.1 h
    exact refCivil_true n _ _ _ h'.1 h'.2 (civ_is h'.1 (by omega)) w
theorem refWeekday_calls (n : Int) (w : World) :
    Calls Try.prog 47 #[.int .i64 n] w fun e w' => e = .returned (.tuple #[.int .i64 (kv n (wdF n)), .int .i64 (ke n)]) ∧ Below w.heap.size w w' := by
  unfold kv ke
  have a104 := fun w => rknown_calls n w
  cases h : knownB n
  · rw [h] at a104
    go_enter Try.func47, Try.ntmps47
    go_wp2_with fail
    refine (a104 _).mono ?_
    rintro en w1 ⟨rfl, hB⟩
    go_wp2
    go_ret2
    exact ⟨rfl, hB⟩
  · rw [h] at a104
    have h' := knownB_iff.1 h
    have hr := ref_wd n
    cases hd : decide ((n - 41317 + 6) % 7 = 0)
    all_goals
      have hq := hd
      simp only [decide_eq_true_eq, decide_eq_false_iff_not] at hq
      first | rw [if_pos hq] at hr | rw [if_neg hq] at hr
      have HR := Aside0.mk hr
      clear hr
      go_enter Try.func47, Try.ntmps47
      go_wp2_with fail
      refine (a104 _).mono ?_
      rintro en w1 ⟨rfl, hB⟩
      go_wp2
      go_ret2
      exact ⟨by rw [← HR.out]; rfl, hB⟩
end Go.Proofs.Ytleipbanadnchaa.C
