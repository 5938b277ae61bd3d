/- CalendarTables' function returns true for every input. -/
import Derived.OwnWalk
import Derived.Test.YtleipbanadnchaaEi
import Derived.Test.YtleipbanadnchaaCq
namespace Go.Proofs.Ytleipbanadnchaa.C
open Go.RowKit Go.Shelf Go.Maps Go.Proofs.YtleipbanadnchaaW.PrintWords Go.Proofs.YtleipbanadnchaaW.PrintLast Go.Proofs.YtleipbanadnchaaW.PrintMore
set_option linter.unusedVariables false
set_option linter.unusedSimpArgs false
set_option maxHeartbeats 1000000 in
set_option maxRecDepth 100000 in
theorem calendarTables_w.calls (b u : Int) (A : Option Addr) (c : Nat) (l : List (Int × Int)) (day y m d h i s sec : Int) (w : World) (hr : Kd.C kl w A l.length l) (hnil : A = none → l = [] ∧ c = 0) :
    Calls Try.prog 4 #[tabV b A l.length c u, .int .i64 day, dateV y m d h i s, .int .i64 sec] w fun e w' => e = .returned (.bool true) ∧ Below w.heap.size w w' := by
  have hlen : l.length ≤ 9223372036854775807 := hr.2.1
  have HR := Aside0.mk hr
  have HN := Aside0.mk hnil
  clear hr hnil
  have hv0 : Below w.heap.size w ((w.alloc (.cells #[.int .i64 b, .slice A l.length c, .int .i64 u] 28)).alloc (.cells #[.int .i64 y, .int .i64 m, .int .i64 d, .int .i64 h, .int .i64 i, .int .i64 s] 30)) := ((Below.refl _ w).alloc (Nat.le_refl _) _).alloc (by simp) _
  have HV := Aside0.mk hv0
  clear hv0
  by_cases hl : l.length ≤ 120
  · have d1 : decide (120 < (l.length : Int)) = false := decide_eq_false (by omega)
    have d2 : decide (120 < l.length) = false := decide_eq_false (by omega)
    go_enter Try.func4, Try.ntmps4
    go_wp2_with fail
    refine (tables_calls b u A c l day y m d h i s sec _ (Kd.C_below HR.out HV.out) hl HN.out).mono ?_
    rintro en w1 ⟨rfl, hB⟩
    have hv := HV.out.trans (hB.mono (by simp; omega))
    clear hB
    go_wp2_with fail
    refine (awake_calls _).mono ?_
    rintro en w2 ⟨rfl, hB⟩
    go_wp2
    go_ret
    exact ⟨rfl, hv.trans (hB.mono hv.size)⟩
  · have d1 : decide (120 < (l.length : Int)) = true := decide_eq_true (by omega)
    have d2 : decide (120 < l.length) = true := decide_eq_true (by omega)
    go_enter Try.func4, Try.ntmps4
    go_wp2_with fail
    refine (awake_calls _).mono ?_
    rintro en w2 ⟨rfl, hB⟩
    go_wp2
    go_ret
    exact ⟨rfl, HV.out.trans (hB.mono (by simp; omega))⟩
end Go.Proofs.Ytleipbanadnchaa.C
