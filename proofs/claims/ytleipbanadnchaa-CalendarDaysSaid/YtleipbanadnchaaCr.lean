/- The walk of CalendarDays, by hand. -/
import Derived.OwnWalk
import Derived.Test.YtleipbanadnchaaCq
import Derived.Test.YtleipbanadnchaaCi
namespace Go.Proofs.Ytleipbanadnchaa.C
open Go.RowKit Go.Shelf Go.Maps Go.Proofs.YtleipbanadnchaaW.PrintWords Go.Proofs.YtleipbanadnchaaW.PrintLast Go.Proofs.YtleipbanadnchaaW.PrintMore
set_option linter.unusedVariables false
set_option linter.unusedSimpArgs false
theorem days_calls (y m d : Int) (w : World) : Calls Try.prog 12 #[.int .i64 y, .int .i64 m, .int .i64 d] w fun e w' => e = .returned (.bool true) ∧ Below w.heap.size w w' := by
  have a26 := fun w => day_calls y m d w
  have a44 := fun w => refDay_calls y m d w
  generalize dayV y m d = v at *
  generalize dayE y m d = e at *
  have q1 : (v == v) = true := by simp
  have q2 : (e == e) = true := by simp
  go_enter Try.func12, Try.ntmps12
  go_wp2_with fail
  refine (a26 _).mono ?_
  rintro en w1 ⟨rfl, hB⟩
  go_wp2_with fail
  refine (a44 _).mono ?_
  rintro en w2 ⟨rfl, hB2⟩
  go_wp2
  go_ret
  exact ⟨rfl, hB.trans (hB2.mono hB.size)⟩
set_option maxHeartbeats 4000000 in
set_option maxRecDepth 100000 in
theorem numbers_calls (n : Int) (w : World) : Calls Try.prog 13 #[.int .i64 n] w fun e w' => e = .returned (.bool true) ∧ Below w.heap.size w w' := by
  have a30 := fun w => Civil_calls n w
  have a45 := fun w => refCivil_calls n w
  have a46 := fun w => Weekday_calls n w
  have a47 := fun w => refWeekday_calls n w
  have a48 := fun w => Week_calls n w
  have a49 := fun w => refWeek_calls n w
  generalize kv n (cY n) = v1 at *
  generalize kv n (cM n) = v2 at *
  generalize kv n (cD n) = v3 at *
  generalize kv n (wdF n) = v4 at *
  generalize kv n (wkY n) = v5 at *
  generalize kv n (wkN n) = v6 at *
  generalize ke n = e at *
  go_enter Try.func13, Try.ntmps13
  go_wp2_with fail
  refine (a30 _).mono ?_
  rintro en w1 ⟨rfl, hB⟩
  have hv1 := hB
  clear hB
  go_wp2_with fail
  refine (a45 _).mono ?_
  rintro en w2 ⟨rfl, hB⟩
  have hv2 := hv1.trans (hB.mono hv1.size)
  clear hB hv1
  go_wp2_with fail
  refine (a46 _).mono ?_
  rintro en w3 ⟨rfl, hB⟩
  have hv3 := hv2.trans (hB.mono hv2.size)
  clear hB hv2
  go_wp2_with fail
  refine (a47 _).mono ?_
  rintro en w4 ⟨rfl, hB⟩
  have hv4 := hv3.trans (hB.mono hv3.size)
  clear hB hv3
  go_wp2_with fail
  refine (a48 _).mono ?_
  rintro en w5 ⟨rfl, hB⟩
  have hv5 := hv4.trans (hB.mono hv4.size)
  clear hB hv4
  go_wp2_with fail
  refine (a49 _).mono ?_
  rintro en w6 ⟨rfl, hB⟩
  have hv6 := hv5.trans (hB.mono hv5.size)
  clear hB hv5
  go_wp2
  go_ret
  exact ⟨rfl, hv6⟩
theorem calendarDays_pure (a : Int) (wa : (Lit.int .i64 a).wf = true) (b : Int) (wb : (Lit.int .i64 b).wf = true) (c : Int) (wc : (Lit.int .i64 c).wf = true) (d : Int) (wd : (Lit.int .i64 d).wf = true) : Aside0 True := ⟨trivial⟩
theorem calendarDays_w.calls (y m d n : Int) (r : Bool) (w : World) (h : Aside0 True) :
    Calls Try.prog 3 #[.int .i64 y, .int .i64 m, .int .i64 d, .int .i64 n] w fun en w' => en = .returned (.bool true) ∧ Below w.heap.size w w' := by
  go_enter Try.func3, Try.ntmps3
  go_wp2_with fail
  refine (days_calls y m d _).mono ?_
  rintro en w1 ⟨rfl, hB⟩
  have hv1 := hB
  clear hB
  go_wp2_with fail
  refine (numbers_calls n _).mono ?_
  rintro en w2 ⟨rfl, hB⟩
  have hv2 := hv1.trans (hB.mono hv1.size)
  clear hB hv1
  go_wp2_with fail
  refine (awake_calls _).mono ?_
  rintro en w3 ⟨rfl, hB⟩
  go_wp2
  go_ret
  exact ⟨rfl, hv2.trans (hB.mono hv2.size)⟩
end Go.Proofs.Ytleipbanadnchaa.C
