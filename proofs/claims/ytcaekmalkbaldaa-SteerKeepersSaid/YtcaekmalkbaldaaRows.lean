/-
  No cell of these rows narrows 'for every input' (looked for: loops, veiled, ifaces, maps, wideKeys, modest, calm, conditions, laid).
  DERIVED. THE GIVEN ROWS OF THIS SEAT. 7 by the template 'for every input the law returns true; each argument reads behind the call as it read before'; 0 by the template 'total and deterministic' (their statements: YtcaekmalkbaldaaTotals.lean).
  GIVEN WITH THE SEED: the statements are not yours to turn. If you find one false, say at which input.
  Laid BY PROGRAM, IN A SANDBOX (cutbox-rows.mjs): the forced cells as the released guide's own fill.sh prints them over the translation 3b706e051e7d47cc… (all of the seat's roots in one cut). By AI agents, Wed Nov 11 2026. No macro, syntax, notation, axiom, sorry.
-/
import Derived.Test.YtcaekmalkbaldaaChecked
import GoSem.Claim
import GoSem.ClaimJoined
import GoSem.ClaimMapViews
import Derived.JoinedTies
import Derived.KernelRfl
namespace Go.Proofs.Ytcaekmalkbaldaa
/- THE CELL 'sum', in the pinned program and in every row, IS THE sha256 OF THE DUMP (.gsa) THAT YtcaekmalkbaldaaProg.lean LOADS. Nothing in Lean hashes anything: it is a label: what it is worth is what the hold of that sum in a sandbox is worth. -/
noncomputable def Try.pinned : Pinned := { name := "ytcaekmalkbaldaa", sum := "3b706e051e7d47cc5214c51a1baf3670c54dfb9495f2dc5cf44b75b356f1eca8", checked := Try.checked }
namespace Rows
def none {H : Type} : Left H := { results := [], args := [] }

/-- 'meridianlaw06.SteerGrows': WHATEVER THE INPUT: true; the input reads as it did. -/
def steerGrowsSpec : ChangeSpec := { name := "steerGrows", fn := fun _ => fun
  | [d1, d2] => { results := [.lit (.bool true)], args := [d1, d2] }
  | _ => none }
def steerGrowsRow : OpenClaim := { program := "ytcaekmalkbaldaa", sum := "3b706e051e7d47cc5214c51a1baf3670c54dfb9495f2dc5cf44b75b356f1eca8", func := "meridian/meridianlaw06.SteerGrows", spec := "steerGrows", unfollowed := true, recurses := true, apart := false }
def SteerGrowsSaid : Prop := steerGrowsRow.holds Try.pinned (OpenSpec.ofChange steerGrowsSpec)

/-- ITS FALSE NEIGHBOUR: 'it returns false'. Refute it at one input. -/
def steerGrowsWrong : ChangeSpec := { name := "steerGrows", fn := fun _ => fun
  | [d1, d2] => { results := [.lit (.bool false)], args := [d1, d2] }
  | _ => none }
def SteerGrowsWrongFalsely : Prop := steerGrowsRow.holds Try.pinned (OpenSpec.ofChange steerGrowsWrong)

/-- 'meridianlaw06.SteerCharts': WHATEVER THE INPUT: true; the input reads as it did. -/
def steerChartsSpec : ChangeSpec := { name := "steerCharts", fn := fun _ => fun
  | [d1, d2, d3, d4, d5, d6] => { results := [.lit (.bool true)], args := [d1, d2, d3, d4, d5, d6] }
  | _ => none }
def steerChartsRow : OpenClaim := { program := "ytcaekmalkbaldaa", sum := "3b706e051e7d47cc5214c51a1baf3670c54dfb9495f2dc5cf44b75b356f1eca8", func := "meridian/meridianlaw06.SteerCharts", spec := "steerCharts", unfollowed := true, recurses := true, apart := false }
def SteerChartsSaid : Prop := steerChartsRow.holds Try.pinned (OpenSpec.ofChange steerChartsSpec)

/-- ITS FALSE NEIGHBOUR: 'it returns false'. Refute it at one input. -/
def steerChartsWrong : ChangeSpec := { name := "steerCharts", fn := fun _ => fun
  | [d1, d2, d3, d4, d5, d6] => { results := [.lit (.bool false)], args := [d1, d2, d3, d4, d5, d6] }
  | _ => none }
def SteerChartsWrongFalsely : Prop := steerChartsRow.holds Try.pinned (OpenSpec.ofChange steerChartsWrong)

/-- 'meridianlaw06.SteerGreatest': WHATEVER THE INPUT: true; the input reads as it did. -/
def steerGreatestSpec : ChangeSpec := { name := "steerGreatest", fn := fun _ => fun
  | [d1, d2] => { results := [.lit (.bool true)], args := [d1, d2] }
  | _ => none }
def steerGreatestRow : OpenClaim := { program := "ytcaekmalkbaldaa", sum := "3b706e051e7d47cc5214c51a1baf3670c54dfb9495f2dc5cf44b75b356f1eca8", func := "meridian/meridianlaw06.SteerGreatest", spec := "steerGreatest", unfollowed := true, recurses := true, apart := false }
def SteerGreatestSaid : Prop := steerGreatestRow.holds Try.pinned (OpenSpec.ofChange steerGreatestSpec)

/-- ITS FALSE NEIGHBOUR: 'it returns false'. Refute it at one input. -/
def steerGreatestWrong : ChangeSpec := { name := "steerGreatest", fn := fun _ => fun
  | [d1, d2] => { results := [.lit (.bool false)], args := [d1, d2] }
  | _ => none }
def SteerGreatestWrongFalsely : Prop := steerGreatestRow.holds Try.pinned (OpenSpec.ofChange steerGreatestWrong)

/-- 'meridianlaw06.SteerDrives': WHATEVER THE INPUT: true; the input reads as it did. -/
def steerDrivesSpec : ChangeSpec := { name := "steerDrives", fn := fun _ => fun
  | [d1, d2, d3, d4, d5] => { results := [.lit (.bool true)], args := [d1, d2, d3, d4, d5] }
  | _ => none }
def steerDrivesRow : OpenClaim := { program := "ytcaekmalkbaldaa", sum := "3b706e051e7d47cc5214c51a1baf3670c54dfb9495f2dc5cf44b75b356f1eca8", func := "meridian/meridianlaw06.SteerDrives", spec := "steerDrives", unfollowed := true, recurses := true, apart := false }
def SteerDrivesSaid : Prop := steerDrivesRow.holds Try.pinned (OpenSpec.ofChange steerDrivesSpec)

/-- ITS FALSE NEIGHBOUR: 'it returns false'. Refute it at one input. -/
def steerDrivesWrong : ChangeSpec := { name := "steerDrives", fn := fun _ => fun
  | [d1, d2, d3, d4, d5] => { results := [.lit (.bool false)], args := [d1, d2, d3, d4, d5] }
  | _ => none }
def SteerDrivesWrongFalsely : Prop := steerDrivesRow.holds Try.pinned (OpenSpec.ofChange steerDrivesWrong)

/-- 'meridianlaw06.SteerSafe': WHATEVER THE INPUT: true; the input reads as it did. -/
def steerSafeSpec : ChangeSpec := { name := "steerSafe", fn := fun _ => fun
  | [d1, d2, d3, d4] => { results := [.lit (.bool true)], args := [d1, d2, d3, d4] }
  | _ => none }
def steerSafeRow : OpenClaim := { program := "ytcaekmalkbaldaa", sum := "3b706e051e7d47cc5214c51a1baf3670c54dfb9495f2dc5cf44b75b356f1eca8", func := "meridian/meridianlaw06.SteerSafe", spec := "steerSafe", unfollowed := true, recurses := true, apart := false }
def SteerSafeSaid : Prop := steerSafeRow.holds Try.pinned (OpenSpec.ofChange steerSafeSpec)

/-- ITS FALSE NEIGHBOUR: 'it returns false'. Refute it at one input. -/
def steerSafeWrong : ChangeSpec := { name := "steerSafe", fn := fun _ => fun
  | [d1, d2, d3, d4] => { results := [.lit (.bool false)], args := [d1, d2, d3, d4] }
  | _ => none }
def SteerSafeWrongFalsely : Prop := steerSafeRow.holds Try.pinned (OpenSpec.ofChange steerSafeWrong)

/-- 'meridianlaw06.SteerKeepers': WHATEVER THE INPUT: true; the input reads as it did. -/
def steerKeepersSpec : ChangeSpec := { name := "steerKeepers", fn := fun _ => fun
  | [d1, d2, d3, d4] => { results := [.lit (.bool true)], args := [d1, d2, d3, d4] }
  | _ => none }
def steerKeepersRow : OpenClaim := { program := "ytcaekmalkbaldaa", sum := "3b706e051e7d47cc5214c51a1baf3670c54dfb9495f2dc5cf44b75b356f1eca8", func := "meridian/meridianlaw06.SteerKeepers", spec := "steerKeepers", unfollowed := true, recurses := true, apart := false }
def SteerKeepersSaid : Prop := steerKeepersRow.holds Try.pinned (OpenSpec.ofChange steerKeepersSpec)

/-- ITS FALSE NEIGHBOUR: 'it returns false'. Refute it at one input. -/
def steerKeepersWrong : ChangeSpec := { name := "steerKeepers", fn := fun _ => fun
  | [d1, d2, d3, d4] => { results := [.lit (.bool false)], args := [d1, d2, d3, d4] }
  | _ => none }
def SteerKeepersWrongFalsely : Prop := steerKeepersRow.holds Try.pinned (OpenSpec.ofChange steerKeepersWrong)

/-- 'meridianlaw06.SteerSmall': WHATEVER THE INPUT: true; the input reads as it did. -/
def steerSmallSpec : ChangeSpec := { name := "steerSmall", fn := fun _ => fun
  | [] => { results := [.lit (.bool true)], args := [] }
  | _ => none }
def steerSmallRow : OpenClaim := { program := "ytcaekmalkbaldaa", sum := "3b706e051e7d47cc5214c51a1baf3670c54dfb9495f2dc5cf44b75b356f1eca8", func := "meridian/meridianlaw06.SteerSmall", spec := "steerSmall", unfollowed := true, recurses := true, apart := false }
def SteerSmallSaid : Prop := steerSmallRow.holds Try.pinned (OpenSpec.ofChange steerSmallSpec)

/-- ITS FALSE NEIGHBOUR: 'it returns false'. Refute it at one input. -/
def steerSmallWrong : ChangeSpec := { name := "steerSmall", fn := fun _ => fun
  | [] => { results := [.lit (.bool false)], args := [] }
  | _ => none }
def SteerSmallWrongFalsely : Prop := steerSmallRow.holds Try.pinned (OpenSpec.ofChange steerSmallWrong)

/- THE SECOND FORM. 'bulk': how many values and letters a reading holds, each counted each time it is reached (what is shared counts as often as it is met; a slice's spare places count too). A statement '..UptoSaid' is the law's where the arguments, and the package variables that the reading takes, are together of bulk at most 1048576: NARROWER than '..Said'. Prove '..Said' where nothing that the law and all that it calls make is longer than what came in: it says more and counts as full. Else prove '..UptoSaid'. A law counts once. -/
mutual
def uptoBulk {H : Type} : DataW H → Nat
  | .lit (.string bytes) => bytes.length + 1
  | .lit _ => 1
  | .nil => 1
  | .ptr d => uptoBulk d + 1
  | .slice elems spare => uptoBulkAll elems + uptoBulkAll spare + 1
  | .agg parts => uptoBulkAll parts + 1
  | .iface _ d => uptoBulk d + 1
  | .map entries => uptoBulkEntries entries + 1
  | .held _ => 1
def uptoBulkAll {H : Type} : List (DataW H) → Nat
  | [] => 0
  | d :: r => uptoBulk d + uptoBulkAll r
def uptoBulkEntries {H : Type} : List (Lit × DataW H) → Nat
  | [] => 0
  | x :: r => uptoBulkEntry x + uptoBulkEntries r
def uptoBulkEntry {H : Type} : Lit × DataW H → Nat
  | (.string bytes, d) => bytes.length + uptoBulk d + 1
  | (_, d) => uptoBulk d + 1
 end
def uptoSmall : (H : Type) → List (DataW H) → Bool := fun _ ds => decide (uptoBulkAll ds ≤ 1048576)
def OpenSpec.upto (s : _root_.Go.ChangeSpec) : _root_.Go.OpenSpec := { _root_.Go.OpenSpec.ofChange s with cond := some uptoSmall }

/-- 'meridianlaw06.SteerGrows', WHERE WHAT IT READS IS OF BULK AT MOST 1048576: true; the input reads as it did. -/
def steerGrowsUptoRow : OpenClaim := { program := "ytcaekmalkbaldaa", sum := "3b706e051e7d47cc5214c51a1baf3670c54dfb9495f2dc5cf44b75b356f1eca8", func := "meridian/meridianlaw06.SteerGrows", spec := "steerGrows", unfollowed := true, recurses := true, apart := false, narrowed := true }
def SteerGrowsUptoSaid : Prop := steerGrowsUptoRow.holds Try.pinned (OpenSpec.upto steerGrowsSpec)

/-- 'meridianlaw06.SteerCharts', WHERE WHAT IT READS IS OF BULK AT MOST 1048576: true; the input reads as it did. -/
def steerChartsUptoRow : OpenClaim := { program := "ytcaekmalkbaldaa", sum := "3b706e051e7d47cc5214c51a1baf3670c54dfb9495f2dc5cf44b75b356f1eca8", func := "meridian/meridianlaw06.SteerCharts", spec := "steerCharts", unfollowed := true, recurses := true, apart := false, narrowed := true }
def SteerChartsUptoSaid : Prop := steerChartsUptoRow.holds Try.pinned (OpenSpec.upto steerChartsSpec)

/-- 'meridianlaw06.SteerGreatest', WHERE WHAT IT READS IS OF BULK AT MOST 1048576: true; the input reads as it did. -/
def steerGreatestUptoRow : OpenClaim := { program := "ytcaekmalkbaldaa", sum := "3b706e051e7d47cc5214c51a1baf3670c54dfb9495f2dc5cf44b75b356f1eca8", func := "meridian/meridianlaw06.SteerGreatest", spec := "steerGreatest", unfollowed := true, recurses := true, apart := false, narrowed := true }
def SteerGreatestUptoSaid : Prop := steerGreatestUptoRow.holds Try.pinned (OpenSpec.upto steerGreatestSpec)

/-- 'meridianlaw06.SteerDrives', WHERE WHAT IT READS IS OF BULK AT MOST 1048576: true; the input reads as it did. -/
def steerDrivesUptoRow : OpenClaim := { program := "ytcaekmalkbaldaa", sum := "3b706e051e7d47cc5214c51a1baf3670c54dfb9495f2dc5cf44b75b356f1eca8", func := "meridian/meridianlaw06.SteerDrives", spec := "steerDrives", unfollowed := true, recurses := true, apart := false, narrowed := true }
def SteerDrivesUptoSaid : Prop := steerDrivesUptoRow.holds Try.pinned (OpenSpec.upto steerDrivesSpec)

/-- 'meridianlaw06.SteerSafe', WHERE WHAT IT READS IS OF BULK AT MOST 1048576: true; the input reads as it did. -/
def steerSafeUptoRow : OpenClaim := { program := "ytcaekmalkbaldaa", sum := "3b706e051e7d47cc5214c51a1baf3670c54dfb9495f2dc5cf44b75b356f1eca8", func := "meridian/meridianlaw06.SteerSafe", spec := "steerSafe", unfollowed := true, recurses := true, apart := false, narrowed := true }
def SteerSafeUptoSaid : Prop := steerSafeUptoRow.holds Try.pinned (OpenSpec.upto steerSafeSpec)

/-- 'meridianlaw06.SteerKeepers', WHERE WHAT IT READS IS OF BULK AT MOST 1048576: true; the input reads as it did. -/
def steerKeepersUptoRow : OpenClaim := { program := "ytcaekmalkbaldaa", sum := "3b706e051e7d47cc5214c51a1baf3670c54dfb9495f2dc5cf44b75b356f1eca8", func := "meridian/meridianlaw06.SteerKeepers", spec := "steerKeepers", unfollowed := true, recurses := true, apart := false, narrowed := true }
def SteerKeepersUptoSaid : Prop := steerKeepersUptoRow.holds Try.pinned (OpenSpec.upto steerKeepersSpec)

/-- 'meridianlaw06.SteerSmall', WHERE WHAT IT READS IS OF BULK AT MOST 1048576: true; the input reads as it did. -/
def steerSmallUptoRow : OpenClaim := { program := "ytcaekmalkbaldaa", sum := "3b706e051e7d47cc5214c51a1baf3670c54dfb9495f2dc5cf44b75b356f1eca8", func := "meridian/meridianlaw06.SteerSmall", spec := "steerSmall", unfollowed := true, recurses := true, apart := false, narrowed := true }
def SteerSmallUptoSaid : Prop := steerSmallUptoRow.holds Try.pinned (OpenSpec.upto steerSmallSpec)

end Rows
end Go.Proofs.Ytcaekmalkbaldaa
