/-
  No cell of these rows narrows 'for every input' (looked for: loops, veiled, ifaces, maps, wideKeys, modest, calm, conditions, laid).
  DERIVED. THE GIVEN ROWS OF THIS SEAT. 9 by the template 'for every input the law returns true; each argument reads behind the call as it read before'; 0 by the template 'total and deterministic' (their statements: YtleipbanadnchaaTotals.lean).
  GIVEN WITH THE SEED: the statements are not yours to turn. If you find one false, say at which input.
  Laid BY PROGRAM, IN A SANDBOX (cutbox-rows.mjs): the forced cells as the released guide's own fill.sh prints them over the translation cf9dc193f882503b… (all of the seat's roots in one cut). By AI agents, Wed Nov 11 2026. No macro, syntax, notation, axiom, sorry.
-/
import Derived.Test.YtleipbanadnchaaChecked
import GoSem.Claim
import GoSem.ClaimJoined
import GoSem.ClaimMapViews
import Derived.JoinedTies
import Derived.KernelRfl
namespace Go.Proofs.Ytleipbanadnchaa
/- THE CELL 'sum', in the pinned program and in every row, IS THE sha256 OF THE DUMP (.gsa) THAT YtleipbanadnchaaProg.lean LOADS. Nothing in Lean hashes anything: it is a label: what it is worth is what the hold of that sum in a sandbox is worth. -/
noncomputable def Try.pinned : Pinned := { name := "ytleipbanadnchaa", sum := "cf9dc193f882503b4521ec99b2b3bdc844915fdd2c0c1207854aa63558c5813c", checked := Try.checked }
namespace Rows
def none {H : Type} : Left H := { results := [], args := [] }

/-- 'meridianlaw09.CalendarDays': WHATEVER THE INPUT: true; the input reads as it did. -/
def calendarDaysSpec : ChangeSpec := { name := "calendarDays", fn := fun _ => fun
  | [d1, d2, d3, d4] => { results := [.lit (.bool true)], args := [d1, d2, d3, d4] }
  | _ => none }
def calendarDaysRow : OpenClaim := { program := "ytleipbanadnchaa", sum := "cf9dc193f882503b4521ec99b2b3bdc844915fdd2c0c1207854aa63558c5813c", func := "meridian/meridianlaw09.CalendarDays", spec := "calendarDays", apart := false }
def CalendarDaysSaid : Prop := calendarDaysRow.holds Try.pinned (OpenSpec.ofChange calendarDaysSpec)

/-- ITS FALSE NEIGHBOUR: 'it returns false'. Refute it at one input. -/
def calendarDaysWrong : ChangeSpec := { name := "calendarDays", fn := fun _ => fun
  | [d1, d2, d3, d4] => { results := [.lit (.bool false)], args := [d1, d2, d3, d4] }
  | _ => none }
def CalendarDaysWrongFalsely : Prop := calendarDaysRow.holds Try.pinned (OpenSpec.ofChange calendarDaysWrong)

/-- 'meridianlaw09.CalendarTables': WHATEVER THE INPUT: true; the input reads as it did. -/
def calendarTablesSpec : ChangeSpec := { name := "calendarTables", fn := fun _ => fun
  | [d1, d2, d3, d4] => { results := [.lit (.bool true)], args := [d1, d2, d3, d4] }
  | _ => none }
def calendarTablesRow : OpenClaim := { program := "ytleipbanadnchaa", sum := "cf9dc193f882503b4521ec99b2b3bdc844915fdd2c0c1207854aa63558c5813c", func := "meridian/meridianlaw09.CalendarTables", spec := "calendarTables", apart := false }
def CalendarTablesSaid : Prop := calendarTablesRow.holds Try.pinned (OpenSpec.ofChange calendarTablesSpec)

/-- ITS FALSE NEIGHBOUR: 'it returns false'. Refute it at one input. -/
def calendarTablesWrong : ChangeSpec := { name := "calendarTables", fn := fun _ => fun
  | [d1, d2, d3, d4] => { results := [.lit (.bool false)], args := [d1, d2, d3, d4] }
  | _ => none }
def CalendarTablesWrongFalsely : Prop := calendarTablesRow.holds Try.pinned (OpenSpec.ofChange calendarTablesWrong)

/-- 'meridianlaw09.CalendarInverse': WHATEVER THE INPUT: true; the input reads as it did. -/
def calendarInverseSpec : ChangeSpec := { name := "calendarInverse", fn := fun _ => fun
  | [d1, d2, d3, d4] => { results := [.lit (.bool true)], args := [d1, d2, d3, d4] }
  | _ => none }
def calendarInverseRow : OpenClaim := { program := "ytleipbanadnchaa", sum := "cf9dc193f882503b4521ec99b2b3bdc844915fdd2c0c1207854aa63558c5813c", func := "meridian/meridianlaw09.CalendarInverse", spec := "calendarInverse", apart := false }
def CalendarInverseSaid : Prop := calendarInverseRow.holds Try.pinned (OpenSpec.ofChange calendarInverseSpec)

/-- ITS FALSE NEIGHBOUR: 'it returns false'. Refute it at one input. -/
def calendarInverseWrong : ChangeSpec := { name := "calendarInverse", fn := fun _ => fun
  | [d1, d2, d3, d4] => { results := [.lit (.bool false)], args := [d1, d2, d3, d4] }
  | _ => none }
def CalendarInverseWrongFalsely : Prop := calendarInverseRow.holds Try.pinned (OpenSpec.ofChange calendarInverseWrong)

/-- 'meridianlaw09.CalendarExtends': WHATEVER THE INPUT: true; the input reads as it did. -/
def calendarExtendsSpec : ChangeSpec := { name := "calendarExtends", fn := fun _ => fun
  | [d1, d2, d3, d4] => { results := [.lit (.bool true)], args := [d1, d2, d3, d4] }
  | _ => none }
def calendarExtendsRow : OpenClaim := { program := "ytleipbanadnchaa", sum := "cf9dc193f882503b4521ec99b2b3bdc844915fdd2c0c1207854aa63558c5813c", func := "meridian/meridianlaw09.CalendarExtends", spec := "calendarExtends", unfollowed := true, recurses := true, apart := false }
def CalendarExtendsSaid : Prop := calendarExtendsRow.holds Try.pinned (OpenSpec.ofChange calendarExtendsSpec)

/-- ITS FALSE NEIGHBOUR: 'it returns false'. Refute it at one input. -/
def calendarExtendsWrong : ChangeSpec := { name := "calendarExtends", fn := fun _ => fun
  | [d1, d2, d3, d4] => { results := [.lit (.bool false)], args := [d1, d2, d3, d4] }
  | _ => none }
def CalendarExtendsWrongFalsely : Prop := calendarExtendsRow.holds Try.pinned (OpenSpec.ofChange calendarExtendsWrong)

/-- 'meridianlaw09.CalendarCodes': WHATEVER THE INPUT: true; the input reads as it did. -/
def calendarCodesSpec : ChangeSpec := { name := "calendarCodes", fn := fun _ => fun
  | [d1, d2, d3, d4, d5] => { results := [.lit (.bool true)], args := [d1, d2, d3, d4, d5] }
  | _ => none }
def calendarCodesRow : OpenClaim := { program := "ytleipbanadnchaa", sum := "cf9dc193f882503b4521ec99b2b3bdc844915fdd2c0c1207854aa63558c5813c", func := "meridian/meridianlaw09.CalendarCodes", spec := "calendarCodes", apart := false }
def CalendarCodesSaid : Prop := calendarCodesRow.holds Try.pinned (OpenSpec.ofChange calendarCodesSpec)

/-- ITS FALSE NEIGHBOUR: 'it returns false'. Refute it at one input. -/
def calendarCodesWrong : ChangeSpec := { name := "calendarCodes", fn := fun _ => fun
  | [d1, d2, d3, d4, d5] => { results := [.lit (.bool false)], args := [d1, d2, d3, d4, d5] }
  | _ => none }
def CalendarCodesWrongFalsely : Prop := calendarCodesRow.holds Try.pinned (OpenSpec.ofChange calendarCodesWrong)

/-- 'meridianlaw09.CalendarOffsets': WHATEVER THE INPUT: true; the input reads as it did. -/
def calendarOffsetsSpec : ChangeSpec := { name := "calendarOffsets", fn := fun _ => fun
  | [d1, d2, d3] => { results := [.lit (.bool true)], args := [d1, d2, d3] }
  | _ => none }
def calendarOffsetsRow : OpenClaim := { program := "ytleipbanadnchaa", sum := "cf9dc193f882503b4521ec99b2b3bdc844915fdd2c0c1207854aa63558c5813c", func := "meridian/meridianlaw09.CalendarOffsets", spec := "calendarOffsets", apart := false }
def CalendarOffsetsSaid : Prop := calendarOffsetsRow.holds Try.pinned (OpenSpec.ofChange calendarOffsetsSpec)

/-- ITS FALSE NEIGHBOUR: 'it returns false'. Refute it at one input. -/
def calendarOffsetsWrong : ChangeSpec := { name := "calendarOffsets", fn := fun _ => fun
  | [d1, d2, d3] => { results := [.lit (.bool false)], args := [d1, d2, d3] }
  | _ => none }
def CalendarOffsetsWrongFalsely : Prop := calendarOffsetsRow.holds Try.pinned (OpenSpec.ofChange calendarOffsetsWrong)

/-- 'meridianlaw09.CalendarEncodes': WHATEVER THE INPUT: true; the input reads as it did. -/
def calendarEncodesSpec : ChangeSpec := { name := "calendarEncodes", fn := fun _ => fun
  | [d1, d2, d3, d4] => { results := [.lit (.bool true)], args := [d1, d2, d3, d4] }
  | _ => none }
def calendarEncodesRow : OpenClaim := { program := "ytleipbanadnchaa", sum := "cf9dc193f882503b4521ec99b2b3bdc844915fdd2c0c1207854aa63558c5813c", func := "meridian/meridianlaw09.CalendarEncodes", spec := "calendarEncodes", apart := false }
def CalendarEncodesSaid : Prop := calendarEncodesRow.holds Try.pinned (OpenSpec.ofChange calendarEncodesSpec)

/-- ITS FALSE NEIGHBOUR: 'it returns false'. Refute it at one input. -/
def calendarEncodesWrong : ChangeSpec := { name := "calendarEncodes", fn := fun _ => fun
  | [d1, d2, d3, d4] => { results := [.lit (.bool false)], args := [d1, d2, d3, d4] }
  | _ => none }
def CalendarEncodesWrongFalsely : Prop := calendarEncodesRow.holds Try.pinned (OpenSpec.ofChange calendarEncodesWrong)

/-- 'meridianlaw09.CalendarZones': WHATEVER THE INPUT: true; the input reads as it did. -/
def calendarZonesSpec : ChangeSpec := { name := "calendarZones", fn := fun _ => fun
  | [d1, d2, d3, d4] => { results := [.lit (.bool true)], args := [d1, d2, d3, d4] }
  | _ => none }
def calendarZonesRow : OpenClaim := { program := "ytleipbanadnchaa", sum := "cf9dc193f882503b4521ec99b2b3bdc844915fdd2c0c1207854aa63558c5813c", func := "meridian/meridianlaw09.CalendarZones", spec := "calendarZones", unfollowed := true, recurses := true, apart := false }
def CalendarZonesSaid : Prop := calendarZonesRow.holds Try.pinned (OpenSpec.ofChange calendarZonesSpec)

/-- ITS FALSE NEIGHBOUR: 'it returns false'. Refute it at one input. -/
def calendarZonesWrong : ChangeSpec := { name := "calendarZones", fn := fun _ => fun
  | [d1, d2, d3, d4] => { results := [.lit (.bool false)], args := [d1, d2, d3, d4] }
  | _ => none }
def CalendarZonesWrongFalsely : Prop := calendarZonesRow.holds Try.pinned (OpenSpec.ofChange calendarZonesWrong)

/-- 'meridianlaw09.CalendarLocal': WHATEVER THE INPUT: true; the input reads as it did. -/
def calendarLocalSpec : ChangeSpec := { name := "calendarLocal", fn := fun _ => fun
  | [d1, d2, d3, d4, d5] => { results := [.lit (.bool true)], args := [d1, d2, d3, d4, d5] }
  | _ => none }
def calendarLocalRow : OpenClaim := { program := "ytleipbanadnchaa", sum := "cf9dc193f882503b4521ec99b2b3bdc844915fdd2c0c1207854aa63558c5813c", func := "meridian/meridianlaw09.CalendarLocal", spec := "calendarLocal", unfollowed := true, recurses := true, apart := false }
def CalendarLocalSaid : Prop := calendarLocalRow.holds Try.pinned (OpenSpec.ofChange calendarLocalSpec)

/-- ITS FALSE NEIGHBOUR: 'it returns false'. Refute it at one input. -/
def calendarLocalWrong : ChangeSpec := { name := "calendarLocal", fn := fun _ => fun
  | [d1, d2, d3, d4, d5] => { results := [.lit (.bool false)], args := [d1, d2, d3, d4, d5] }
  | _ => none }
def CalendarLocalWrongFalsely : Prop := calendarLocalRow.holds Try.pinned (OpenSpec.ofChange calendarLocalWrong)

/- THE SECOND FORM. 'bulk': how many values and letters a reading holds, each counted each time it is reached (what is shared counts as often as it is met; a slice's spare places count too). A statement '..UptoSaid' is the law's where the arguments, and the package variables that the reading takes, are together of bulk at most 1048576: NARROWER than '..Said'. Prove '..Said' where nothing that the law and all that it calls make is longer than what came in: it says more and counts as full. Else prove '..UptoSaid'. A law counts once. -/
mutual
def uptoBulk {H : Type} : DataW H → Nat
  | .lit (.string bytes) => bytes.length + 1
  | .lit _ => 1
  | .nil => 1
  | .ptr d => uptoBulk d + 1
  | .slice elems spare => uptoBulkAll elems + uptoBulkAll spare + 1
  | .agg parts => uptoBulkAll parts + 1
  | .iface _ d => uptoBulk d + 1
  | .map entries => uptoBulkEntries entries + 1
  | .held _ => 1
def uptoBulkAll {H : Type} : List (DataW H) → Nat
  | [] => 0
  | d :: r => uptoBulk d + uptoBulkAll r
def uptoBulkEntries {H : Type} : List (Lit × DataW H) → Nat
  | [] => 0
  | x :: r => uptoBulkEntry x + uptoBulkEntries r
def uptoBulkEntry {H : Type} : Lit × DataW H → Nat
  | (.string bytes, d) => bytes.length + uptoBulk d + 1
  | (_, d) => uptoBulk d + 1
 end
def uptoSmall : (H : Type) → List (DataW H) → Bool := fun _ ds => decide (uptoBulkAll ds ≤ 1048576)
def OpenSpec.upto (s : _root_.Go.ChangeSpec) : _root_.Go.OpenSpec := { _root_.Go.OpenSpec.ofChange s with cond := some uptoSmall }

/-- 'meridianlaw09.CalendarDays', WHERE WHAT IT READS IS OF BULK AT MOST 1048576: true; the input reads as it did. -/
def calendarDaysUptoRow : OpenClaim := { program := "ytleipbanadnchaa", sum := "cf9dc193f882503b4521ec99b2b3bdc844915fdd2c0c1207854aa63558c5813c", func := "meridian/meridianlaw09.CalendarDays", spec := "calendarDays", apart := false, narrowed := true }
def CalendarDaysUptoSaid : Prop := calendarDaysUptoRow.holds Try.pinned (OpenSpec.upto calendarDaysSpec)

/-- 'meridianlaw09.CalendarTables', WHERE WHAT IT READS IS OF BULK AT MOST 1048576: true; the input reads as it did. -/
def calendarTablesUptoRow : OpenClaim := { program := "ytleipbanadnchaa", sum := "cf9dc193f882503b4521ec99b2b3bdc844915fdd2c0c1207854aa63558c5813c", func := "meridian/meridianlaw09.CalendarTables", spec := "calendarTables", apart := false, narrowed := true }
def CalendarTablesUptoSaid : Prop := calendarTablesUptoRow.holds Try.pinned (OpenSpec.upto calendarTablesSpec)

/-- 'meridianlaw09.CalendarInverse', WHERE WHAT IT READS IS OF BULK AT MOST 1048576: true; the input reads as it did. -/
def calendarInverseUptoRow : OpenClaim := { program := "ytleipbanadnchaa", sum := "cf9dc193f882503b4521ec99b2b3bdc844915fdd2c0c1207854aa63558c5813c", func := "meridian/meridianlaw09.CalendarInverse", spec := "calendarInverse", apart := false, narrowed := true }
def CalendarInverseUptoSaid : Prop := calendarInverseUptoRow.holds Try.pinned (OpenSpec.upto calendarInverseSpec)

/-- 'meridianlaw09.CalendarExtends', WHERE WHAT IT READS IS OF BULK AT MOST 1048576: true; the input reads as it did. -/
def calendarExtendsUptoRow : OpenClaim := { program := "ytleipbanadnchaa", sum := "cf9dc193f882503b4521ec99b2b3bdc844915fdd2c0c1207854aa63558c5813c", func := "meridian/meridianlaw09.CalendarExtends", spec := "calendarExtends", unfollowed := true, recurses := true, apart := false, narrowed := true }
def CalendarExtendsUptoSaid : Prop := calendarExtendsUptoRow.holds Try.pinned (OpenSpec.upto calendarExtendsSpec)

/-- 'meridianlaw09.CalendarCodes', WHERE WHAT IT READS IS OF BULK AT MOST 1048576: true; the input reads as it did. -/
def calendarCodesUptoRow : OpenClaim := { program := "ytleipbanadnchaa", sum := "cf9dc193f882503b4521ec99b2b3bdc844915fdd2c0c1207854aa63558c5813c", func := "meridian/meridianlaw09.CalendarCodes", spec := "calendarCodes", apart := false, narrowed := true }
def CalendarCodesUptoSaid : Prop := calendarCodesUptoRow.holds Try.pinned (OpenSpec.upto calendarCodesSpec)

/-- 'meridianlaw09.CalendarOffsets', WHERE WHAT IT READS IS OF BULK AT MOST 1048576: true; the input reads as it did. -/
def calendarOffsetsUptoRow : OpenClaim := { program := "ytleipbanadnchaa", sum := "cf9dc193f882503b4521ec99b2b3bdc844915fdd2c0c1207854aa63558c5813c", func := "meridian/meridianlaw09.CalendarOffsets", spec := "calendarOffsets", apart := false, narrowed := true }
def CalendarOffsetsUptoSaid : Prop := calendarOffsetsUptoRow.holds Try.pinned (OpenSpec.upto calendarOffsetsSpec)

/-- 'meridianlaw09.CalendarEncodes', WHERE WHAT IT READS IS OF BULK AT MOST 1048576: true; the input reads as it did. -/
def calendarEncodesUptoRow : OpenClaim := { program := "ytleipbanadnchaa", sum := "cf9dc193f882503b4521ec99b2b3bdc844915fdd2c0c1207854aa63558c5813c", func := "meridian/meridianlaw09.CalendarEncodes", spec := "calendarEncodes", apart := false, narrowed := true }
def CalendarEncodesUptoSaid : Prop := calendarEncodesUptoRow.holds Try.pinned (OpenSpec.upto calendarEncodesSpec)

/-- 'meridianlaw09.CalendarZones', WHERE WHAT IT READS IS OF BULK AT MOST 1048576: true; the input reads as it did. -/
def calendarZonesUptoRow : OpenClaim := { program := "ytleipbanadnchaa", sum := "cf9dc193f882503b4521ec99b2b3bdc844915fdd2c0c1207854aa63558c5813c", func := "meridian/meridianlaw09.CalendarZones", spec := "calendarZones", unfollowed := true, recurses := true, apart := false, narrowed := true }
def CalendarZonesUptoSaid : Prop := calendarZonesUptoRow.holds Try.pinned (OpenSpec.upto calendarZonesSpec)

/-- 'meridianlaw09.CalendarLocal', WHERE WHAT IT READS IS OF BULK AT MOST 1048576: true; the input reads as it did. -/
def calendarLocalUptoRow : OpenClaim := { program := "ytleipbanadnchaa", sum := "cf9dc193f882503b4521ec99b2b3bdc844915fdd2c0c1207854aa63558c5813c", func := "meridian/meridianlaw09.CalendarLocal", spec := "calendarLocal", unfollowed := true, recurses := true, apart := false, narrowed := true }
def CalendarLocalUptoSaid : Prop := calendarLocalUptoRow.holds Try.pinned (OpenSpec.upto calendarLocalSpec)

end Rows
end Go.Proofs.Ytleipbanadnchaa
