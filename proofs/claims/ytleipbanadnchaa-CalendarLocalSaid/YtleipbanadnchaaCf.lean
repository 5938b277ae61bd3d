/- Contracts of calendar.Civil, Weekday, Week, by hand. -/
import Derived.OwnWalk
import Derived.Test.YtleipbanadnchaaCe
namespace Go.Proofs.Ytleipbanadnchaa.C
open Go.RowKit Go.Shelf Go.Proofs.YtleipbanadnchaaW.PrintWords Go.Proofs.YtleipbanadnchaaW.PrintLast Go.Proofs.YtleipbanadnchaaW.PrintMore
set_option linter.unusedVariables false
set_option linter.unusedSimpArgs false
theorem results_tmp4 {fn : Func} {t u v x : Tmp} (h : fn.results = #[.tmp t, .tmp u, .tmp v, .tmp x]) (tmps : Array Value) (P : Program) (w : World) :
    (results fn tmps).run P w = .ok (.tuple #[tmps.getD t undef, tmps.getD u undef, tmps.getD v undef, tmps.getD x undef]) w := by
  simp [results, h]
/-- The day is one of the calendar. -/
def knownB (n : Int) : Bool := decide (41317 ≤ n) && decide (n ≤ 88068)
theorem knownB_iff {n : Int} : knownB n = true ↔ 41317 ≤ n ∧ n ≤ 88068 := by simp [knownB]
def kv (n v : Int) : Int := if knownB n = true then v else 0
def ke (n : Int) : Int := if knownB n = true then 0 else 6
theorem Civil_calls (n : Int) (w : World) :
    Calls Try.prog 30 #[.int .i64 n] w fun e w' => e = .returned (.tuple #[.int .i64 (kv n (cY n)), .int .i64 (kv n (cM n)), .int .i64 (kv n (cD n)), .int .i64 (ke n)]) ∧ Below w.heap.size w w' := by
  unfold kv ke
  have a87 := fun w => known_calls n w
  change ∀ w, Calls _ _ _ _ (fun e w' => e = .returned (.bool (knownB n)) ∧ _) at a87
  cases h : knownB n
  · rw [h] at a87
    go_enter Try.func30, Try.ntmps30
    go_wp2_with fail
    refine (a87 _).mono ?_
    rintro en w1 ⟨rfl, hB⟩
    go_wp2
    exact bodyPost_ret (results_tmp4 rfl _ _ _) rfl ⟨rfl, hB⟩
  · rw [h] at a87
    have h' := knownB_iff.1 h
    go_enter Try.func30, Try.ntmps30
    go_wp2_with fail
    refine (a87 _).mono ?_
    rintro en w1 ⟨rfl, hB⟩
    go_wp2_with fail
    refine (civil_calls n (by omega) (by omega) _).mono ?_
    rintro en w2 ⟨rfl, hB2⟩
    go_wp2
    exact bodyPost_ret (results_tmp4 rfl _ _ _) rfl ⟨rfl, hB.trans (hB2.mono hB.size)⟩
theorem weekday_calls (n : Int) (h0 : 41317 ≤ n) (h1 : n ≤ 88071) (w : World) :
    Calls Try.prog 106 #[.int .i64 n] w fun e w' => e = .returned (.int .i64 (wdF n)) ∧ w' = w := by
  go_enter Try.func106, Try.ntmps106
  go_wp2
  go_ret
  exact ⟨by unfold wdF; rfl, rfl⟩
theorem Weekday_calls (n : Int) (w : World) :
    Calls Try.prog 46 #[.int .i64 n] w fun e w' => e = .returned (.tuple #[.int .i64 (kv n (wdF n)), .int .i64 (ke n)]) ∧ Below w.heap.size w w' := by
  unfold kv ke
  have a87 := fun w => known_calls n w
  change ∀ w, Calls _ _ _ _ (fun e w' => e = .returned (.bool (knownB n)) ∧ _) at a87
  cases h : knownB n
  · rw [h] at a87
    go_enter Try.func46, Try.ntmps46
    go_wp2_with fail
    refine (a87 _).mono ?_
    rintro en w1 ⟨rfl, hB⟩
    go_wp2
    go_ret2
    exact ⟨rfl, hB⟩
  · rw [h] at a87
    have h' := knownB_iff.1 h
    go_enter Try.func46, Try.ntmps46
    go_wp2_with fail
    refine (a87 _).mono ?_
    rintro en w1 ⟨rfl, hB⟩
    go_wp2_with fail
    refine (weekday_calls n (by omega) (by omega) _).mono ?_
    rintro en w2 ⟨rfl, rfl⟩
    go_wp2
    go_ret2
    exact ⟨rfl, hB⟩
set_option maxRecDepth 100000 in
theorem Week_calls (n : Int) (w : World) :
    Calls Try.prog 48 #[.int .i64 n] w fun e w' => e = .returned (.tuple #[.int .i64 (kv n (wkY n)), .int .i64 (kv n (wkN n)), .int .i64 (ke n)]) ∧ Below w.heap.size w w' := by
  unfold kv ke
  have a87 := fun w => known_calls n w
  change ∀ w, Calls _ _ _ _ (fun e w' => e = .returned (.bool (knownB n)) ∧ _) at a87
  cases h : knownB n
  · rw [h] at a87
    go_enter Try.func48, Try.ntmps48
    go_wp2_with fail
    refine (a87 _).mono ?_
    rintro en w1 ⟨rfl, hB⟩
    go_wp2
    go_ret3
    exact ⟨rfl, hB⟩
  · rw [h] at a87
    have h' := knownB_iff.1 h
    have hw : 1 ≤ wdF n ∧ wdF n ≤ 7 := by unfold wdF; omega
    have ht : Aside0 (n + 4 - wdF n = thuF n) := ⟨rfl⟩
    have hb := thu_last h'.1 h'.2
    obtain ⟨t, e⟩ : ∃ t, n + 4 - wdF n = t := ⟨_, rfl⟩
    have HT : Aside0 (thuF n = t) := ⟨by rw [← ht.out, e]⟩
    rw [HT.out] at hb
    by_cases hlt : t < 41317
    · have d1 : decide (n + 4 - wdF n < 41317) = true := decide_eq_true (by omega)
      have hy : wkY n = 1971 ∧ wkN n = 52 := by unfold wkY wkN; rw [HT.out, if_pos hlt, if_pos hlt]; exact ⟨rfl, rfl⟩
      rw [hy.1, hy.2]
      clear hy ht
      go_enter Try.func48, Try.ntmps48
      go_wp2_with fail
      refine (a87 _).mono ?_
      rintro en w1 ⟨rfl, hB⟩
      go_wp2_with fail
      refine (weekday_calls n (by omega) (by omega) _).mono ?_
      rintro en w2 ⟨rfl, rfl⟩
      go_wp2
      go_ret3
      exact ⟨rfl, hB⟩
    · have d1 : decide (n + 4 - wdF n < 41317) = false := decide_eq_false (by omega)
      have hy : wkY n = cY t ∧ wkN n = (t - ny (cY t) - 1) / 7 + 1 := by unfold wkY wkN; rw [HT.out, if_neg hlt, if_neg hlt]; exact ⟨rfl, rfl⟩
      rw [hy.1, hy.2]
      have hc := civ_is (n := t) (by omega) (by omega)
      have hc0 := hc.y0
      have hc1 := hc.y1 (by omega)
      have hc2 := hc.in_year.1
      have hc3 : 41316 ≤ ny (cY t) := by unfold ny; omega
      clear hy ht hc
      go_enter Try.func48, Try.ntmps48
      go_wp2_with fail
      refine (a87 _).mono ?_
      rintro en w1 ⟨rfl, hB⟩
      go_wp2_with fail
      refine (weekday_calls n (by omega) (by omega) _).mono ?_
      rintro en w2 ⟨rfl, rfl⟩
      go_wp2_with fail
      refine (civil_calls t (by omega) (by omega) _).mono ?_
      rintro en w3 ⟨rfl, hB2⟩
      go_wp2_with fail
      refine (newYear_calls (cY t) (by omega) (by omega) _).mono ?_
      rintro en w4 ⟨rfl, rfl⟩
      go_wp2
      go_ret3
      exact ⟨rfl, hB.trans (hB2.mono hB.size)⟩
end Go.Proofs.Ytleipbanadnchaa.C
