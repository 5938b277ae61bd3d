/- CalendarCodes' function returns true for every input. -/
import Derived.OwnWalk
import Derived.Test.YtleipbanadnchaaGl
namespace Go.Proofs.Ytleipbanadnchaa.C
open Go.RowKit Go.Shelf Go.Maps Go.Proofs.YtleipbanadnchaaW.PrintWords Go.Proofs.YtleipbanadnchaaW.PrintLast Go.Proofs.YtleipbanadnchaaW.PrintMore
set_option linter.unusedVariables false
set_option linter.unusedSimpArgs false
set_option maxHeartbeats 1000000 in
set_option maxRecDepth 100000 in
theorem calendarCodes_w.calls (b u : Int) (A : Option Addr) (c : Nat) (l : List (Int × Int)) (sec unix x y p q : Int) (w : World) (hr : Kd.C kl w A l.length l) (hnil : A = none → l = [] ∧ c = 0) :
    Calls Try.prog 7 #[tabV b A l.length c u, .int .i64 sec, .int .i64 unix, .agg #[.int .i64 x, .int .i64 y], .agg #[.int .i64 p, .int .i64 q]] w fun e w' => e = .returned (.bool true) ∧ Below w.heap.size w w' := by
  have hlen : l.length ≤ 9223372036854775807 := hr.2.1
  have HR := Aside0.mk hr
  have HN := Aside0.mk hnil
  clear hr hnil
  have hv0 : Below w.heap.size w (((w.alloc (.cells #[.int .i64 b, .slice A l.length c, .int .i64 u] 28)).alloc (.cells #[.int .i64 x, .int .i64 y] 52)).alloc (.cells #[.int .i64 p, .int .i64 q] 54)) := (((Below.refl _ w).alloc (Nat.le_refl _) _).alloc (by simp) _).alloc (by simp <;> omega) _
  have HV := Aside0.mk hv0
  clear hv0
  by_cases hl : l.length ≤ 120
  · have d1 : decide (120 < (l.length : Int)) = false := decide_eq_false (by omega)
    have d2 : decide (120 < l.length) = false := decide_eq_false (by omega)
    go_enter Try.func7, Try.ntmps7
    go_wp2_with fail
    refine (codes_calls b u A c l sec unix x y p q _ (Kd.C_below HR.out HV.out) hl HN.out).mono ?_
    rintro en w1 ⟨rfl, hB⟩
    have hv := HV.out.trans (hB.mono (by simp <;> omega))
    clear hB
    go_wp2_with fail
    refine (awake_calls _).mono ?_
    rintro en w2 ⟨rfl, hB⟩
    go_wp2
    go_ret
    exact ⟨rfl, hv.trans (hB.mono hv.size)⟩
  · have d1 : decide (120 < (l.length : Int)) = true := decide_eq_true (by omega)
    have d2 : decide (120 < l.length) = true := decide_eq_true (by omega)
    go_enter Try.func7, Try.ntmps7
    go_wp2_with fail
    refine (awake_calls _).mono ?_
    rintro en w2 ⟨rfl, hB⟩
    go_wp2
    go_ret
    exact ⟨rfl, HV.out.trans (hB.mono (by simp <;> omega))⟩
end Go.Proofs.Ytleipbanadnchaa.C
