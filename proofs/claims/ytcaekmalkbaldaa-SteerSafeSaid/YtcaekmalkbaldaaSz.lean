/- SteerSafe's function returns true for every input. -/
import Derived.Test.YtcaekmalkbaldaaSA
import Derived.Test.YtcaekmalkbaldaaSB
namespace Go.Proofs.Ytcaekmalkbaldaa.M
open Go.RowKit Go.Shelf Go.Proofs.YtcaekmalkbaldaaW.PrintWords Go.Proofs.YtcaekmalkbaldaaW.PrintLast Go.Proofs.YtcaekmalkbaldaaW.PrintMore
set_option linter.unusedVariables false
theorem steerSafe_pure (L R S N : Int) (w0 : (Lit.int .i64 L).wf = true) (w1 : (Lit.int .i64 R).wf = true) (w2 : (Lit.int .i64 S).wf = true) (w3 : (Lit.int .i64 N).wf = true) (e : Int) (we : (Lit.int .i64 e).wf = true) (y : Int) (wy : (Lit.int .i64 y).wf = true)
    (l : List Int) (hm : l.length ≤ maxLen) (hy : l.length * 8 ≤ 140737488351232) (hw : ∀ n ∈ l, (Lit.int .i64 n).wf = true) : Aside0 (l.length ≤ 140737488351232) := ⟨by omega⟩
theorem steerSafe_w.calls (L R S N e y : Int) (A : Option Addr) (c : Nat) (l : List Int) (r : Bool) (w : World) (hr : Kd.C (Kd.int .i64) w A l.length l) (hc : l.length ≤ c) (h : Aside0 (l.length ≤ 140737488351232)) :
    Calls Try.prog 7 #[.agg #[.int .i64 L, .int .i64 R, .int .i64 S, .int .i64 N], .int .i64 e, .int .i64 y, .slice A l.length c] w fun en w' => en = .returned (.bool true) ∧ Below w.heap.size w w' := by
  have H := h.out
  cases hb : (decide (rightB L R S N = true) && decide (600 < (2 * L + 1) * (2 * R + 1))) with
  | true => exact steerSafe_big L R S N e y A c l w hb
  | false =>
    by_cases hp : rightB L R S N = true
    · by_cases hl : l.length > 200
      · exact steerSafe_wrong L R S N e y A c l w H hb (.inr hl)
      · obtain ⟨ch, hch⟩ := chart_some hp
        by_cases hv : rd ch (ix L R (pickF e (2 * L + 1) - L) (pickF y (2 * R + 1) - R)) < 1000
        · exact steerSafe_A L R S N e y A c l w hb hp (by omega) hr hc ch hch ⟨hv⟩
        · exact steerSafe_B L R S N e y A c l w hb hp (by omega) hr hc ch hch ⟨by omega⟩
    · exact steerSafe_wrong L R S N e y A c l w H hb (.inl hp)
end Go.Proofs.Ytcaekmalkbaldaa.M
