/- The contract of the reference's Week, by hand. -/
import Derived.OwnWalk
import Derived.Test.YtleipbanadnchaaCh
namespace Go.Proofs.Ytleipbanadnchaa.C
open Go.RowKit Go.Shelf Go.Proofs.YtleipbanadnchaaW.PrintWords Go.Proofs.YtleipbanadnchaaW.PrintLast Go.Proofs.YtleipbanadnchaaW.PrintMore
set_option linter.unusedVariables false
set_option linter.unusedSimpArgs false
theorem mon_mon (n y : Int) (h : monF y ≤ n) : monF y ≤ n - wdF n + 1 := by
  unfold monF wdF at *
  generalize ny y = a at *
  omega
theorem refWeek_out (n : Int) (h : knownB n = false) (w : World) :
    Calls Try.prog 49 #[.int .i64 n] w fun e w' => e = .returned (.tuple #[.int .i64 0, .int .i64 0, .int .i64 6]) ∧ Below w.heap.size w w' := by
  have a47 := fun w => refWeekday_calls n w
  unfold kv ke at a47
  rw [h] at a47
  go_enter Try.func49, Try.ntmps49
  go_wp2_with fail
  refine (a47 _).mono ?_
  rintro en w1 ⟨rfl, hB⟩
  go_wp2
  go_ret3
  exact ⟨rfl, hB⟩
set_option maxHeartbeats 2000000 in
set_option maxRecDepth 100000 in
theorem refWeek_in (n : Int) (h : knownB n = true) (w : World) :
    Calls Try.prog 49 #[.int .i64 n] w fun e w' => e = .returned (.tuple #[.int .i64 (wkY n), .int .i64 (wkN n), .int .i64 0]) ∧ Below w.heap.size w w' := by
  have h' := knownB_iff.1 h
  have a47 := fun w => refWeekday_calls n w
  have a45 := fun w => refCivil_calls n w
  unfold kv ke at a47 a45
  rw [h, if_pos rfl, if_pos rfl] at a47
  rw [h, if_pos rfl, if_pos rfl, if_pos rfl, if_pos rfl] at a45
  have hciv := civ_is h'.1 (by omega)
  have hY0 := hciv.y0
  have hY1 := hciv.y2 h'.2
  have hw : 1 ≤ wdF n ∧ wdF n ≤ 7 := by unfold wdF; omega
  have hst : Aside0 (41317 ≤ thuF n → wkY n ≤ cY n + 1) := ⟨fun h2 => (wk_start h'.1 h'.2 h2).1⟩
  have hlo : Aside0 (41317 ≤ thuF n → 1972 ≤ wkY n ∧ wkY n ≤ 2099) := ⟨fun h2 => ⟨(wk_start h'.1 h'.2 h2).2.1, (wk_start h'.1 h'.2 h2).2.2.1⟩⟩
  have habove : Aside0 (∀ z, 41317 ≤ thuF n → wkY n < z → ¬ monF z ≤ n) := ⟨fun z h2 hz => wk_above h'.1 h'.2 h2 hz⟩
  have hat : Aside0 (41317 ≤ thuF n → monF (wkY n) ≤ n ∧ (n - wdF n + 1 - monF (wkY n)) / 7 + 1 = wkN n) := ⟨fun h2 => wk_at h'.1 h'.2 h2⟩
  have hno : Aside0 (∀ z, thuF n < 41317 → 1972 ≤ z → ¬ monF z ≤ n) := ⟨fun z h2 hz => wk_none h2 hz⟩
  have hnn : Aside0 (thuF n < 41317 → wkY n = 1971 ∧ wkN n = 52) := ⟨fun h2 => by unfold wkY wkN; rw [if_pos h2, if_pos h2]; exact ⟨rfl, rfl⟩⟩
  generalize cY n = Y at *
  clear hciv
  go_enter Try.func49, Try.ntmps49
  go_wp2_with fail
  refine (a47 _).mono ?_
  rintro en w1 ⟨rfl, hB1⟩
  go_wp2_with fail
  refine (a45 _).mono ?_
  rintro en w2 ⟨rfl, hB2⟩
  have HB := Aside0.mk (hB1.trans (hB2.mono hB1.size))
  clear hB1 hB2 a47 a45
  go_wp2_with fail
  go_loopw [11] (fun v11 wr => ∃ z : Int, 1971 ≤ z ∧ z ≤ Y + 1 ∧ v11 = .int .i64 z ∧ Aside0 ((41317 ≤ thuF n → wkY n ≤ z) ∧ Below w.heap.size w wr)) (fun v _ => (intOf v - 1971).toNat)
  case atStart => exact ⟨Y + 1, by omega, by omega, rfl, ⟨hst.out, HB.out⟩⟩
  case round =>
    obtain ⟨z, hz0, hz1, rfl, HZ⟩ := hrel
    by_cases hge : 1972 ≤ z
    · have d1 : decide (1972 ≤ z) = true := decide_eq_true hge
      have a44 := fun w => refDay_calls z 1 4 w
      by_cases hz9 : z ≤ 2099
      · have hok : okD z 1 4 = true := okD_iff.2 ⟨by omega, by omega, by omega, by omega, by omega, by unfold mlen; split <;> split <;> omega⟩
        have hdn : dayN z 1 4 = ny z + 4 := by unfold dayN; simp [cum]
        unfold dayV dayE at a44
        rw [hok, if_pos rfl, if_pos rfl, hdn] at a44
        have hny : 41316 ≤ ny z ∧ ny z ≤ 88000 := by unfold ny; omega
        have a47 := fun w => refWeekday_calls (ny z + 4) w
        unfold kv ke at a47
        rw [knownB_iff.2 ⟨by omega, by omega⟩, if_pos rfl, if_pos rfl] at a47
        have hm : Aside0 (ny z + 4 - wdF (ny z + 4) + 1 = monF z) := ⟨rfl⟩
        have hwb : 1 ≤ wdF (ny z + 4) ∧ wdF (ny z + 4) ≤ 7 := by unfold wdF; omega
        clear hdn hok
        generalize wdF (ny z + 4) = v at *
        generalize ny z = a at *
        by_cases hle : a + 4 - v + 1 ≤ n
        · have d2 : decide (a + 4 - v + 1 ≤ n) = true := decide_eq_true hle
          have HE : Aside0 (z = wkY n ∧ (n - wdF n + 1 - (a + 4 - v + 1)) / 7 + 1 = wkN n) := ⟨by
            rcases Int.lt_or_le (thuF n) 41317 with c | c
            · have h3 := hno.out z c hge
              have h4 := hm.out
              omega
            · have e : z = wkY n := by
                rcases Int.lt_or_le (wkY n) z with c2 | c2
                · have h3 := habove.out z c c2
                  have h4 := hm.out
                  omega
                · have := HZ.out.1 c; omega
              refine ⟨e, ?_⟩
              have := (hat.out c).2
              rw [← e] at this
              rw [hm.out]; exact this⟩
          have h5 : 0 ≤ n - wdF n + 1 - (a + 4 - v + 1) := by have := mon_mon n z (by rw [← hm.out]; exact hle); rw [← hm.out] at this; omega
          clear hle
          go_wp2_with fail
          refine (a44 _).mono ?_
          rintro en w3 ⟨rfl, hB3⟩
          go_wp2_with fail
          refine (a47 _).mono ?_
          rintro en w4 ⟨rfl, hB4⟩
          go_wp2
          go_ret3
          exact ⟨by rw [← HE.out.2, ← HE.out.1]; rfl, (HZ.out.2.trans (hB3.mono HZ.out.2.size)).trans (hB4.mono (by have := HZ.out.2.size; have := hB3.size; omega))⟩
        · have d2 : decide (a + 4 - v + 1 ≤ n) = false := decide_eq_false hle
          have HE : Aside0 (41317 ≤ thuF n → wkY n ≤ z - 1) := ⟨fun c => by
            have h1 := HZ.out.1 c
            have h2 := (hat.out c).1
            rcases Int.lt_or_le (wkY n) z with c2 | c2
            · omega
            · obtain e : wkY n = z := by omega
              rw [e, ← hm.out] at h2
              omega⟩
          clear hle
          go_wp2_with fail
          refine (a44 _).mono ?_
          rintro en w3 ⟨rfl, hB3⟩
          go_wp2_with fail
          refine (a47 _).mono ?_
          rintro en w4 ⟨rfl, hB4⟩
          go_wp2
          go_roundw
          case rel => exact ⟨z - 1, by omega, by omega, rfl, ⟨HE.out, (HZ.out.2.trans (hB3.mono HZ.out.2.size)).trans (hB4.mono (by have := HZ.out.2.size; have := hB3.size; omega))⟩⟩
          case measure => simp [intOf]; omega
      · have hok : okD z 1 4 = false := by simp [okD]; omega
        unfold dayV dayE at a44
        rw [hok] at a44
        have HE : Aside0 (41317 ≤ thuF n → wkY n ≤ z - 1) := ⟨fun c => by have := hlo.out c; omega⟩
        clear hok
        go_wp2_with fail
        refine (a44 _).mono ?_
        rintro en w3 ⟨rfl, hB3⟩
        go_wp2
        go_roundw
        case rel => exact ⟨z - 1, by omega, by omega, rfl, ⟨HE.out, HZ.out.2.trans (hB3.mono HZ.out.2.size)⟩⟩
        case measure => simp [intOf]; omega
    · have d1 : decide (1972 ≤ z) = false := decide_eq_false hge
      have HE : Aside0 (wkY n = 1971 ∧ wkN n = 52) := ⟨hnn.out (by
        rcases Int.lt_or_le (thuF n) 41317 with c | c
        · exact c
        · have := HZ.out.1 c; have := hlo.out c; omega)⟩
      go_wp2
      go_ret3
      exact ⟨by rw [HE.out.1, HE.out.2]; rfl, HZ.out.2⟩
theorem refWeek_calls (n : Int) (w : World) :
    Calls Try.prog 49 #[.int .i64 n] w fun e w' => e = .returned (.tuple #[.int .i64 (kv n (wkY n)), .int .i64 (kv n (wkN n)), .int .i64 (ke n)]) ∧ Below w.heap.size w w' := by
  unfold kv ke
  cases h : knownB n
  · exact refWeek_out n h w
  · exact refWeek_in n h w
end Go.Proofs.Ytleipbanadnchaa.C
