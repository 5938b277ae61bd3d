/- SteerDrives' function returns true for every input. -/
import Derived.Test.YtcaekmalkbaldaaDx
namespace Go.Proofs.Ytcaekmalkbaldaa.M
open Go.RowKit Go.Shelf Go.Proofs.YtcaekmalkbaldaaW.PrintWords Go.Proofs.YtcaekmalkbaldaaW.PrintLast Go.Proofs.YtcaekmalkbaldaaW.PrintMore
set_option linter.unusedVariables false
theorem steerDrives_pure (L R S N : Int) (w0 : (Lit.int .i64 L).wf = true) (w1 : (Lit.int .i64 R).wf = true) (w2 : (Lit.int .i64 S).wf = true) (w3 : (Lit.int .i64 N).wf = true) (e : Int) (we : (Lit.int .i64 e).wf = true) (y : Int) (wy : (Lit.int .i64 y).wf = true)
    (l : List Int) (hm : l.length ≤ maxLen) (hy : l.length * 8 ≤ 140737488351232) (hw : ∀ n ∈ l, (Lit.int .i64 n).wf = true) (l' : List Int) (hm' : l'.length ≤ maxLen) (hy' : l'.length * 8 ≤ 140737488351232) (hw' : ∀ n ∈ l', (Lit.int .i64 n).wf = true) : Aside0 (l.length ≤ 140737488351232 ∧ l'.length ≤ 140737488351232) := ⟨by omega⟩
theorem steerDrives_w.calls (L R S N e y : Int) (A : Option Addr) (c : Nat) (l : List Int) (A' : Option Addr) (c' : Nat) (l' : List Int) (r : Bool) (w : World) (hr : Kd.C (Kd.int .i64) w A l.length l) (hc : l.length ≤ c) (hr' : Kd.C (Kd.int .i64) w A' l'.length l') (hc' : l'.length ≤ c') (h : Aside0 (l.length ≤ 140737488351232 ∧ l'.length ≤ 140737488351232)) :
    Calls Try.prog 6 #[.agg #[.int .i64 L, .int .i64 R, .int .i64 S, .int .i64 N], .int .i64 e, .int .i64 y, .slice A l.length c, .slice A' l'.length c'] w fun en w' => en = .returned (.bool true) ∧ Below w.heap.size w w' := by
  have H := h.out
  by_cases hb : (decide (rightB L R S N = true) && decide (600 < (2 * L + 1) * (2 * R + 1))) = true ∨ l.length > 60 ∨ l'.length > 60
  · exact steerDrives_early L R S N e y A c l A' c' l' w hb H.1 H.2
  · rw [not_or, not_or] at hb
    exact steerDrives_main L R S N e y A c l A' c' l' w (by simpa using hb.1) (by omega) (by omega) hr hc hr' hc'
end Go.Proofs.Ytcaekmalkbaldaa.M
