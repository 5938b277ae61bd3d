/-
  No cell of these rows narrows 'for every input' (looked for: loops, veiled, ifaces, maps, wideKeys, modest, calm, conditions, laid).
  DERIVED. THE GIVEN ROWS OF THIS SEAT. 6 by the template 'for every input the law returns true; each argument reads behind the call as it read before'; 0 by the template 'total and deterministic' (their statements: YtjgnadighdbjlaaTotals.lean).
  GIVEN WITH THE SEED: the statements are not yours to turn. If you find one false, say at which input.
  Laid BY PROGRAM, IN A SANDBOX (cutbox-rows.mjs): the forced cells as the released guide's own fill.sh prints them over the translation 95cec00e0f4be483… (all of the seat's roots in one cut). By AI agents, Wed Nov 11 2026. No macro, syntax, notation, axiom, sorry.
-/
import Derived.Test.YtjgnadighdbjlaaChecked
import GoSem.Claim
import GoSem.ClaimJoined
import GoSem.ClaimMapViews
import Derived.JoinedTies
import Derived.KernelRfl
namespace Go.Proofs.Ytjgnadighdbjlaa
/- THE CELL 'sum', in the pinned program and in every row, IS THE sha256 OF THE DUMP (.gsa) THAT YtjgnadighdbjlaaProg.lean LOADS. Nothing in Lean hashes anything: it is a label: what it is worth is what the hold of that sum in a sandbox is worth. -/
noncomputable def Try.pinned : Pinned := { name := "ytjgnadighdbjlaa", sum := "95cec00e0f4be48393bda591cf51915cd86fb359c08bfa0b84f4dc98487c225b", checked := Try.checked }
namespace Rows
def none {H : Type} : Left H := { results := [], args := [] }

/-- 'meridianlaw02.CounterNets': WHATEVER THE INPUT: true; the input reads as it did. -/
def counterNetsSpec : ChangeSpec := { name := "counterNets", fn := fun _ => fun
  | [d1, d2, d3] => { results := [.lit (.bool true)], args := [d1, d2, d3] }
  | _ => none }
def counterNetsRow : OpenClaim := { program := "ytjgnadighdbjlaa", sum := "95cec00e0f4be48393bda591cf51915cd86fb359c08bfa0b84f4dc98487c225b", func := "meridian/meridianlaw02.CounterNets", spec := "counterNets", unfollowed := true, recurses := true, apart := false }
def CounterNetsSaid : Prop := counterNetsRow.holds Try.pinned (OpenSpec.ofChange counterNetsSpec)

/-- ITS FALSE NEIGHBOUR: 'it returns false'. Refute it at one input. -/
def counterNetsWrong : ChangeSpec := { name := "counterNets", fn := fun _ => fun
  | [d1, d2, d3] => { results := [.lit (.bool false)], args := [d1, d2, d3] }
  | _ => none }
def CounterNetsWrongFalsely : Prop := counterNetsRow.holds Try.pinned (OpenSpec.ofChange counterNetsWrong)

/-- 'meridianlaw02.CounterHolds': WHATEVER THE INPUT: true; the input reads as it did. -/
def counterHoldsSpec : ChangeSpec := { name := "counterHolds", fn := fun _ => fun
  | [d1, d2, d3, d4, d5, d6] => { results := [.lit (.bool true)], args := [d1, d2, d3, d4, d5, d6] }
  | _ => none }
def counterHoldsRow : OpenClaim := { program := "ytjgnadighdbjlaa", sum := "95cec00e0f4be48393bda591cf51915cd86fb359c08bfa0b84f4dc98487c225b", func := "meridian/meridianlaw02.CounterHolds", spec := "counterHolds", unfollowed := true, recurses := true, apart := false }
def CounterHoldsSaid : Prop := counterHoldsRow.holds Try.pinned (OpenSpec.ofChange counterHoldsSpec)

/-- ITS FALSE NEIGHBOUR: 'it returns false'. Refute it at one input. -/
def counterHoldsWrong : ChangeSpec := { name := "counterHolds", fn := fun _ => fun
  | [d1, d2, d3, d4, d5, d6] => { results := [.lit (.bool false)], args := [d1, d2, d3, d4, d5, d6] }
  | _ => none }
def CounterHoldsWrongFalsely : Prop := counterHoldsRow.holds Try.pinned (OpenSpec.ofChange counterHoldsWrong)

/-- 'meridianlaw02.CounterTurns': WHATEVER THE INPUT: true; the input reads as it did. -/
def counterTurnsSpec : ChangeSpec := { name := "counterTurns", fn := fun _ => fun
  | [d1, d2, d3, d4] => { results := [.lit (.bool true)], args := [d1, d2, d3, d4] }
  | _ => none }
def counterTurnsRow : OpenClaim := { program := "ytjgnadighdbjlaa", sum := "95cec00e0f4be48393bda591cf51915cd86fb359c08bfa0b84f4dc98487c225b", func := "meridian/meridianlaw02.CounterTurns", spec := "counterTurns", unfollowed := true, recurses := true, apart := false }
def CounterTurnsSaid : Prop := counterTurnsRow.holds Try.pinned (OpenSpec.ofChange counterTurnsSpec)

/-- ITS FALSE NEIGHBOUR: 'it returns false'. Refute it at one input. -/
def counterTurnsWrong : ChangeSpec := { name := "counterTurns", fn := fun _ => fun
  | [d1, d2, d3, d4] => { results := [.lit (.bool false)], args := [d1, d2, d3, d4] }
  | _ => none }
def CounterTurnsWrongFalsely : Prop := counterTurnsRow.holds Try.pinned (OpenSpec.ofChange counterTurnsWrong)

/-- 'meridianlaw02.CounterSolves': WHATEVER THE INPUT: true; the input reads as it did. -/
def counterSolvesSpec : ChangeSpec := { name := "counterSolves", fn := fun _ => fun
  | [d1, d2] => { results := [.lit (.bool true)], args := [d1, d2] }
  | _ => none }
def counterSolvesRow : OpenClaim := { program := "ytjgnadighdbjlaa", sum := "95cec00e0f4be48393bda591cf51915cd86fb359c08bfa0b84f4dc98487c225b", func := "meridian/meridianlaw02.CounterSolves", spec := "counterSolves", unfollowed := true, recurses := true, apart := false }
def CounterSolvesSaid : Prop := counterSolvesRow.holds Try.pinned (OpenSpec.ofChange counterSolvesSpec)

/-- ITS FALSE NEIGHBOUR: 'it returns false'. Refute it at one input. -/
def counterSolvesWrong : ChangeSpec := { name := "counterSolves", fn := fun _ => fun
  | [d1, d2] => { results := [.lit (.bool false)], args := [d1, d2] }
  | _ => none }
def CounterSolvesWrongFalsely : Prop := counterSolvesRow.holds Try.pinned (OpenSpec.ofChange counterSolvesWrong)

/-- 'meridianlaw02.CounterShows': WHATEVER THE INPUT: true; the input reads as it did. -/
def counterShowsSpec : ChangeSpec := { name := "counterShows", fn := fun _ => fun
  | [d1, d2, d3, d4, d5, d6] => { results := [.lit (.bool true)], args := [d1, d2, d3, d4, d5, d6] }
  | _ => none }
def counterShowsRow : OpenClaim := { program := "ytjgnadighdbjlaa", sum := "95cec00e0f4be48393bda591cf51915cd86fb359c08bfa0b84f4dc98487c225b", func := "meridian/meridianlaw02.CounterShows", spec := "counterShows", unfollowed := true, recurses := true, apart := false }
def CounterShowsSaid : Prop := counterShowsRow.holds Try.pinned (OpenSpec.ofChange counterShowsSpec)

/-- ITS FALSE NEIGHBOUR: 'it returns false'. Refute it at one input. -/
def counterShowsWrong : ChangeSpec := { name := "counterShows", fn := fun _ => fun
  | [d1, d2, d3, d4, d5, d6] => { results := [.lit (.bool false)], args := [d1, d2, d3, d4, d5, d6] }
  | _ => none }
def CounterShowsWrongFalsely : Prop := counterShowsRow.holds Try.pinned (OpenSpec.ofChange counterShowsWrong)

/-- 'meridianlaw02.CounterSmall': WHATEVER THE INPUT: true; the input reads as it did. -/
def counterSmallSpec : ChangeSpec := { name := "counterSmall", fn := fun _ => fun
  | [] => { results := [.lit (.bool true)], args := [] }
  | _ => none }
def counterSmallRow : OpenClaim := { program := "ytjgnadighdbjlaa", sum := "95cec00e0f4be48393bda591cf51915cd86fb359c08bfa0b84f4dc98487c225b", func := "meridian/meridianlaw02.CounterSmall", spec := "counterSmall", unfollowed := true, recurses := true, apart := false }
def CounterSmallSaid : Prop := counterSmallRow.holds Try.pinned (OpenSpec.ofChange counterSmallSpec)

/-- ITS FALSE NEIGHBOUR: 'it returns false'. Refute it at one input. -/
def counterSmallWrong : ChangeSpec := { name := "counterSmall", fn := fun _ => fun
  | [] => { results := [.lit (.bool false)], args := [] }
  | _ => none }
def CounterSmallWrongFalsely : Prop := counterSmallRow.holds Try.pinned (OpenSpec.ofChange counterSmallWrong)

/- THE SECOND FORM. 'bulk': how many values and letters a reading holds, each counted each time it is reached (what is shared counts as often as it is met; a slice's spare places count too). A statement '..UptoSaid' is the law's where the arguments, and the package variables that the reading takes, are together of bulk at most 1048576: NARROWER than '..Said'. Prove '..Said' where nothing that the law and all that it calls make is longer than what came in: it says more and counts as full. Else prove '..UptoSaid'. A law counts once. -/
mutual
def uptoBulk {H : Type} : DataW H → Nat
  | .lit (.string bytes) => bytes.length + 1
  | .lit _ => 1
  | .nil => 1
  | .ptr d => uptoBulk d + 1
  | .slice elems spare => uptoBulkAll elems + uptoBulkAll spare + 1
  | .agg parts => uptoBulkAll parts + 1
  | .iface _ d => uptoBulk d + 1
  | .map entries => uptoBulkEntries entries + 1
  | .held _ => 1
def uptoBulkAll {H : Type} : List (DataW H) → Nat
  | [] => 0
  | d :: r => uptoBulk d + uptoBulkAll r
def uptoBulkEntries {H : Type} : List (Lit × DataW H) → Nat
  | [] => 0
  | x :: r => uptoBulkEntry x + uptoBulkEntries r
def uptoBulkEntry {H : Type} : Lit × DataW H → Nat
  | (.string bytes, d) => bytes.length + uptoBulk d + 1
  | (_, d) => uptoBulk d + 1
 end
def uptoSmall : (H : Type) → List (DataW H) → Bool := fun _ ds => decide (uptoBulkAll ds ≤ 1048576)
def OpenSpec.upto (s : _root_.Go.ChangeSpec) : _root_.Go.OpenSpec := { _root_.Go.OpenSpec.ofChange s with cond := some uptoSmall }

/-- 'meridianlaw02.CounterNets', WHERE WHAT IT READS IS OF BULK AT MOST 1048576: true; the input reads as it did. -/
def counterNetsUptoRow : OpenClaim := { program := "ytjgnadighdbjlaa", sum := "95cec00e0f4be48393bda591cf51915cd86fb359c08bfa0b84f4dc98487c225b", func := "meridian/meridianlaw02.CounterNets", spec := "counterNets", unfollowed := true, recurses := true, apart := false, narrowed := true }
def CounterNetsUptoSaid : Prop := counterNetsUptoRow.holds Try.pinned (OpenSpec.upto counterNetsSpec)

/-- 'meridianlaw02.CounterHolds', WHERE WHAT IT READS IS OF BULK AT MOST 1048576: true; the input reads as it did. -/
def counterHoldsUptoRow : OpenClaim := { program := "ytjgnadighdbjlaa", sum := "95cec00e0f4be48393bda591cf51915cd86fb359c08bfa0b84f4dc98487c225b", func := "meridian/meridianlaw02.CounterHolds", spec := "counterHolds", unfollowed := true, recurses := true, apart := false, narrowed := true }
def CounterHoldsUptoSaid : Prop := counterHoldsUptoRow.holds Try.pinned (OpenSpec.upto counterHoldsSpec)

/-- 'meridianlaw02.CounterTurns', WHERE WHAT IT READS IS OF BULK AT MOST 1048576: true; the input reads as it did. -/
def counterTurnsUptoRow : OpenClaim := { program := "ytjgnadighdbjlaa", sum := "95cec00e0f4be48393bda591cf51915cd86fb359c08bfa0b84f4dc98487c225b", func := "meridian/meridianlaw02.CounterTurns", spec := "counterTurns", unfollowed := true, recurses := true, apart := false, narrowed := true }
def CounterTurnsUptoSaid : Prop := counterTurnsUptoRow.holds Try.pinned (OpenSpec.upto counterTurnsSpec)

/-- 'meridianlaw02.CounterSolves', WHERE WHAT IT READS IS OF BULK AT MOST 1048576: true; the input reads as it did. -/
def counterSolvesUptoRow : OpenClaim := { program := "ytjgnadighdbjlaa", sum := "95cec00e0f4be48393bda591cf51915cd86fb359c08bfa0b84f4dc98487c225b", func := "meridian/meridianlaw02.CounterSolves", spec := "counterSolves", unfollowed := true, recurses := true, apart := false, narrowed := true }
def CounterSolvesUptoSaid : Prop := counterSolvesUptoRow.holds Try.pinned (OpenSpec.upto counterSolvesSpec)

/-- 'meridianlaw02.CounterShows', WHERE WHAT IT READS IS OF BULK AT MOST 1048576: true; the input reads as it did. -/
def counterShowsUptoRow : OpenClaim := { program := "ytjgnadighdbjlaa", sum := "95cec00e0f4be48393bda591cf51915cd86fb359c08bfa0b84f4dc98487c225b", func := "meridian/meridianlaw02.CounterShows", spec := "counterShows", unfollowed := true, recurses := true, apart := false, narrowed := true }
def CounterShowsUptoSaid : Prop := counterShowsUptoRow.holds Try.pinned (OpenSpec.upto counterShowsSpec)

/-- 'meridianlaw02.CounterSmall', WHERE WHAT IT READS IS OF BULK AT MOST 1048576: true; the input reads as it did. -/
def counterSmallUptoRow : OpenClaim := { program := "ytjgnadighdbjlaa", sum := "95cec00e0f4be48393bda591cf51915cd86fb359c08bfa0b84f4dc98487c225b", func := "meridian/meridianlaw02.CounterSmall", spec := "counterSmall", unfollowed := true, recurses := true, apart := false, narrowed := true }
def CounterSmallUptoSaid : Prop := counterSmallUptoRow.holds Try.pinned (OpenSpec.upto counterSmallSpec)

end Rows
end Go.Proofs.Ytjgnadighdbjlaa
