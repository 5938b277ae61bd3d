/-
  NARROWER THAN 'FOR EVERY INPUT', by the rows' own cells (each row's printed sentence says how): WorldOrders: laid · WorldExact: laid · WorldWalks: laid · WorldShows: laid · WorldHolds: laid · WorldTracks: laid · WorldSmall: laid.
  DERIVED. THE GIVEN ROWS OF THIS SEAT. 7 by the template 'for every input the law returns true; each argument reads behind the call as it read before'; 0 by the template 'total and deterministic' (their statements: YtlfnnalepdjagaaDoorTotals.lean).
  GIVEN WITH THE SEED: the statements are not yours to turn. If you find one false, say at which input.
  Laid BY PROGRAM, IN A SANDBOX (cutbox-rows.mjs): the forced cells as the released guide's own fill.sh prints them over the translation 94590bdc373d626f… (all of the seat's roots in one cut). By AI agents, Wed Nov 11 2026. No macro, syntax, notation, axiom, sorry.
-/
import Derived.Test.YtlfnnalepdjagaaDoorChecked
import GoSem.Claim
import GoSem.ClaimJoined
import GoSem.ClaimMapViews
import Derived.JoinedTies
import Derived.KernelRfl
namespace Go.Proofs.YtlfnnalepdjagaaDoor
/- THE CELL 'sum', in the pinned program and in every row, IS THE sha256 OF THE DUMP (.gsa) THAT YtlfnnalepdjagaaDoorProg.lean LOADS. Nothing in Lean hashes anything: it is a label: what it is worth is what the hold of that sum in a sandbox is worth. -/
noncomputable def Tryd.pinned : Pinned := { name := "ytlfnnalepdjagaadoor", sum := "94590bdc373d626f6fad1c097210dfbef60223e0c05ceffb9278d12b0395cfc1", checked := Tryd.checked }
namespace Rows
def none {H : Type} : Left H := { results := [], args := [] }

/- WHAT THE LISTED PACKAGE-LEVEL VARIABLES READ AS WHEN THE CALL BEGINS. Each datum BY PROGRAM (the guide's laid-datum.mjs) off the statement by which the dump's own 'gosem.cut.vars' lays the variable. In a bare row this is a premise. The card (YtlfnnalepdjagaaDoorCards.lean) ties it to the program's text. -/
def laid_meridian_world_limits {H : Type} : DataW H := .agg [.agg [.lit (.int .i64 0), .lit (.int .i64 0), .lit (.int .i64 0), .lit (.int .i64 0)], .agg [.lit (.int .i64 10000000), .lit (.int .i64 10000), .lit (.int .i64 10000000), .lit (.int .i64 100000)], .agg [.lit (.int .i64 1000000), .lit (.int .i64 100000), .lit (.int .i64 100000), .lit (.int .i64 10000)], .agg [.lit (.int .i64 100000), .lit (.int .i64 0), .lit (.int .i64 1000000), .lit (.int .i64 1000)], .agg [.lit (.int .i64 100000), .lit (.int .i64 0), .lit (.int .i64 100000), .lit (.int .i64 100)], .agg [.lit (.int .i64 10000000000), .lit (.int .i64 10000000), .lit (.int .i64 1000000000000), .lit (.int .i64 1000000000)]]

/-- 'meridianlaw01.WorldOrders': WHATEVER THE INPUT: true; the input reads as it did. -/
def worldOrdersSpec : ChangeSpec := { name := "worldOrders", fn := fun _ => fun
  | [d1, d2, d3, d4] => { results := [.lit (.bool true)], args := [d1, d2, d3, d4] }
  | _ => none }
def worldOrdersRow : OpenClaim := { program := "ytlfnnalepdjagaadoor", sum := "94590bdc373d626f6fad1c097210dfbef60223e0c05ceffb9278d12b0395cfc1", func := "meridian/meridianlaw01.WorldOrders", spec := "worldOrders", unfollowed := true, recurses := true, named := ["meridian/world.limits"], apart := false, laid := [("meridian/world.limits", laid_meridian_world_limits)] }
def WorldOrdersSaid : Prop := worldOrdersRow.holds Tryd.pinned (OpenSpec.ofChange worldOrdersSpec)

/-- ITS FALSE NEIGHBOUR: 'it returns false'. Refute it at one input. -/
def worldOrdersWrong : ChangeSpec := { name := "worldOrders", fn := fun _ => fun
  | [d1, d2, d3, d4] => { results := [.lit (.bool false)], args := [d1, d2, d3, d4] }
  | _ => none }
def WorldOrdersWrongFalsely : Prop := worldOrdersRow.holds Tryd.pinned (OpenSpec.ofChange worldOrdersWrong)

/-- 'meridianlaw01.WorldExact': WHATEVER THE INPUT: true; the input reads as it did. -/
def worldExactSpec : ChangeSpec := { name := "worldExact", fn := fun _ => fun
  | [d1, d2, d3, d4, d5] => { results := [.lit (.bool true)], args := [d1, d2, d3, d4, d5] }
  | _ => none }
def worldExactRow : OpenClaim := { program := "ytlfnnalepdjagaadoor", sum := "94590bdc373d626f6fad1c097210dfbef60223e0c05ceffb9278d12b0395cfc1", func := "meridian/meridianlaw01.WorldExact", spec := "worldExact", unfollowed := true, recurses := true, named := ["meridian/world.limits"], apart := false, laid := [("meridian/world.limits", laid_meridian_world_limits)] }
def WorldExactSaid : Prop := worldExactRow.holds Tryd.pinned (OpenSpec.ofChange worldExactSpec)

/-- ITS FALSE NEIGHBOUR: 'it returns false'. Refute it at one input. -/
def worldExactWrong : ChangeSpec := { name := "worldExact", fn := fun _ => fun
  | [d1, d2, d3, d4, d5] => { results := [.lit (.bool false)], args := [d1, d2, d3, d4, d5] }
  | _ => none }
def WorldExactWrongFalsely : Prop := worldExactRow.holds Tryd.pinned (OpenSpec.ofChange worldExactWrong)

/-- 'meridianlaw01.WorldWalks': WHATEVER THE INPUT: true; the input reads as it did. -/
def worldWalksSpec : ChangeSpec := { name := "worldWalks", fn := fun _ => fun
  | [d1, d2, d3, d4] => { results := [.lit (.bool true)], args := [d1, d2, d3, d4] }
  | _ => none }
def worldWalksRow : OpenClaim := { program := "ytlfnnalepdjagaadoor", sum := "94590bdc373d626f6fad1c097210dfbef60223e0c05ceffb9278d12b0395cfc1", func := "meridian/meridianlaw01.WorldWalks", spec := "worldWalks", unfollowed := true, recurses := true, named := ["meridian/world.limits"], apart := false, laid := [("meridian/world.limits", laid_meridian_world_limits)] }
def WorldWalksSaid : Prop := worldWalksRow.holds Tryd.pinned (OpenSpec.ofChange worldWalksSpec)

/-- ITS FALSE NEIGHBOUR: 'it returns false'. Refute it at one input. -/
def worldWalksWrong : ChangeSpec := { name := "worldWalks", fn := fun _ => fun
  | [d1, d2, d3, d4] => { results := [.lit (.bool false)], args := [d1, d2, d3, d4] }
  | _ => none }
def WorldWalksWrongFalsely : Prop := worldWalksRow.holds Tryd.pinned (OpenSpec.ofChange worldWalksWrong)

/-- 'meridianlaw01.WorldShows': WHATEVER THE INPUT: true; the input reads as it did. -/
def worldShowsSpec : ChangeSpec := { name := "worldShows", fn := fun _ => fun
  | [d1, d2, d3] => { results := [.lit (.bool true)], args := [d1, d2, d3] }
  | _ => none }
def worldShowsRow : OpenClaim := { program := "ytlfnnalepdjagaadoor", sum := "94590bdc373d626f6fad1c097210dfbef60223e0c05ceffb9278d12b0395cfc1", func := "meridian/meridianlaw01.WorldShows", spec := "worldShows", unfollowed := true, recurses := true, named := ["meridian/world.limits"], apart := false, laid := [("meridian/world.limits", laid_meridian_world_limits)] }
def WorldShowsSaid : Prop := worldShowsRow.holds Tryd.pinned (OpenSpec.ofChange worldShowsSpec)

/-- ITS FALSE NEIGHBOUR: 'it returns false'. Refute it at one input. -/
def worldShowsWrong : ChangeSpec := { name := "worldShows", fn := fun _ => fun
  | [d1, d2, d3] => { results := [.lit (.bool false)], args := [d1, d2, d3] }
  | _ => none }
def WorldShowsWrongFalsely : Prop := worldShowsRow.holds Tryd.pinned (OpenSpec.ofChange worldShowsWrong)

/-- 'meridianlaw01.WorldHolds': WHATEVER THE INPUT: true; the input reads as it did. -/
def worldHoldsSpec : ChangeSpec := { name := "worldHolds", fn := fun _ => fun
  | [d1, d2, d3, d4, d5] => { results := [.lit (.bool true)], args := [d1, d2, d3, d4, d5] }
  | _ => none }
def worldHoldsRow : OpenClaim := { program := "ytlfnnalepdjagaadoor", sum := "94590bdc373d626f6fad1c097210dfbef60223e0c05ceffb9278d12b0395cfc1", func := "meridian/meridianlaw01.WorldHolds", spec := "worldHolds", unfollowed := true, recurses := true, named := ["meridian/world.limits"], apart := false, laid := [("meridian/world.limits", laid_meridian_world_limits)] }
def WorldHoldsSaid : Prop := worldHoldsRow.holds Tryd.pinned (OpenSpec.ofChange worldHoldsSpec)

/-- ITS FALSE NEIGHBOUR: 'it returns false'. Refute it at one input. -/
def worldHoldsWrong : ChangeSpec := { name := "worldHolds", fn := fun _ => fun
  | [d1, d2, d3, d4, d5] => { results := [.lit (.bool false)], args := [d1, d2, d3, d4, d5] }
  | _ => none }
def WorldHoldsWrongFalsely : Prop := worldHoldsRow.holds Tryd.pinned (OpenSpec.ofChange worldHoldsWrong)

/-- 'meridianlaw01.WorldTracks': WHATEVER THE INPUT: true; the input reads as it did. -/
def worldTracksSpec : ChangeSpec := { name := "worldTracks", fn := fun _ => fun
  | [d1, d2, d3, d4, d5, d6] => { results := [.lit (.bool true)], args := [d1, d2, d3, d4, d5, d6] }
  | _ => none }
def worldTracksRow : OpenClaim := { program := "ytlfnnalepdjagaadoor", sum := "94590bdc373d626f6fad1c097210dfbef60223e0c05ceffb9278d12b0395cfc1", func := "meridian/meridianlaw01.WorldTracks", spec := "worldTracks", unfollowed := true, recurses := true, named := ["meridian/world.limits"], apart := false, laid := [("meridian/world.limits", laid_meridian_world_limits)] }
def WorldTracksSaid : Prop := worldTracksRow.holds Tryd.pinned (OpenSpec.ofChange worldTracksSpec)

/-- ITS FALSE NEIGHBOUR: 'it returns false'. Refute it at one input. -/
def worldTracksWrong : ChangeSpec := { name := "worldTracks", fn := fun _ => fun
  | [d1, d2, d3, d4, d5, d6] => { results := [.lit (.bool false)], args := [d1, d2, d3, d4, d5, d6] }
  | _ => none }
def WorldTracksWrongFalsely : Prop := worldTracksRow.holds Tryd.pinned (OpenSpec.ofChange worldTracksWrong)

/-- 'meridianlaw01.WorldSmall': WHATEVER THE INPUT: true; the input reads as it did. -/
def worldSmallSpec : ChangeSpec := { name := "worldSmall", fn := fun _ => fun
  | [] => { results := [.lit (.bool true)], args := [] }
  | _ => none }
def worldSmallRow : OpenClaim := { program := "ytlfnnalepdjagaadoor", sum := "94590bdc373d626f6fad1c097210dfbef60223e0c05ceffb9278d12b0395cfc1", func := "meridian/meridianlaw01.WorldSmall", spec := "worldSmall", unfollowed := true, recurses := true, named := ["meridian/world.limits"], apart := false, laid := [("meridian/world.limits", laid_meridian_world_limits)] }
def WorldSmallSaid : Prop := worldSmallRow.holds Tryd.pinned (OpenSpec.ofChange worldSmallSpec)

/-- ITS FALSE NEIGHBOUR: 'it returns false'. Refute it at one input. -/
def worldSmallWrong : ChangeSpec := { name := "worldSmall", fn := fun _ => fun
  | [] => { results := [.lit (.bool false)], args := [] }
  | _ => none }
def WorldSmallWrongFalsely : Prop := worldSmallRow.holds Tryd.pinned (OpenSpec.ofChange worldSmallWrong)

/- THE SECOND FORM. 'bulk': how many values and letters a reading holds, each counted each time it is reached (what is shared counts as often as it is met; a slice's spare places count too). A statement '..UptoSaid' is the law's where the arguments, and the package variables that the reading takes, are together of bulk at most 1048576: NARROWER than '..Said'. Prove '..Said' where nothing that the law and all that it calls make is longer than what came in: it says more and counts as full. Else prove '..UptoSaid'. A law counts once. -/
mutual
def uptoBulk {H : Type} : DataW H → Nat
  | .lit (.string bytes) => bytes.length + 1
  | .lit _ => 1
  | .nil => 1
  | .ptr d => uptoBulk d + 1
  | .slice elems spare => uptoBulkAll elems + uptoBulkAll spare + 1
  | .agg parts => uptoBulkAll parts + 1
  | .iface _ d => uptoBulk d + 1
  | .map entries => uptoBulkEntries entries + 1
  | .held _ => 1
def uptoBulkAll {H : Type} : List (DataW H) → Nat
  | [] => 0
  | d :: r => uptoBulk d + uptoBulkAll r
def uptoBulkEntries {H : Type} : List (Lit × DataW H) → Nat
  | [] => 0
  | x :: r => uptoBulkEntry x + uptoBulkEntries r
def uptoBulkEntry {H : Type} : Lit × DataW H → Nat
  | (.string bytes, d) => bytes.length + uptoBulk d + 1
  | (_, d) => uptoBulk d + 1
 end
def uptoSmall : (H : Type) → List (DataW H) → Bool := fun _ ds => decide (uptoBulkAll ds ≤ 1048576)
def OpenSpec.upto (s : _root_.Go.ChangeSpec) : _root_.Go.OpenSpec := { _root_.Go.OpenSpec.ofChange s with cond := some uptoSmall }

/-- 'meridianlaw01.WorldOrders', WHERE WHAT IT READS IS OF BULK AT MOST 1048576: true; the input reads as it did. -/
def worldOrdersUptoRow : OpenClaim := { program := "ytlfnnalepdjagaadoor", sum := "94590bdc373d626f6fad1c097210dfbef60223e0c05ceffb9278d12b0395cfc1", func := "meridian/meridianlaw01.WorldOrders", spec := "worldOrders", unfollowed := true, recurses := true, named := ["meridian/world.limits"], apart := false, laid := [("meridian/world.limits", laid_meridian_world_limits)], narrowed := true }
def WorldOrdersUptoSaid : Prop := worldOrdersUptoRow.holds Tryd.pinned (OpenSpec.upto worldOrdersSpec)

/-- 'meridianlaw01.WorldExact', WHERE WHAT IT READS IS OF BULK AT MOST 1048576: true; the input reads as it did. -/
def worldExactUptoRow : OpenClaim := { program := "ytlfnnalepdjagaadoor", sum := "94590bdc373d626f6fad1c097210dfbef60223e0c05ceffb9278d12b0395cfc1", func := "meridian/meridianlaw01.WorldExact", spec := "worldExact", unfollowed := true, recurses := true, named := ["meridian/world.limits"], apart := false, laid := [("meridian/world.limits", laid_meridian_world_limits)], narrowed := true }
def WorldExactUptoSaid : Prop := worldExactUptoRow.holds Tryd.pinned (OpenSpec.upto worldExactSpec)

/-- 'meridianlaw01.WorldWalks', WHERE WHAT IT READS IS OF BULK AT MOST 1048576: true; the input reads as it did. -/
def worldWalksUptoRow : OpenClaim := { program := "ytlfnnalepdjagaadoor", sum := "94590bdc373d626f6fad1c097210dfbef60223e0c05ceffb9278d12b0395cfc1", func := "meridian/meridianlaw01.WorldWalks", spec := "worldWalks", unfollowed := true, recurses := true, named := ["meridian/world.limits"], apart := false, laid := [("meridian/world.limits", laid_meridian_world_limits)], narrowed := true }
def WorldWalksUptoSaid : Prop := worldWalksUptoRow.holds Tryd.pinned (OpenSpec.upto worldWalksSpec)

/-- 'meridianlaw01.WorldShows', WHERE WHAT IT READS IS OF BULK AT MOST 1048576: true; the input reads as it did. -/
def worldShowsUptoRow : OpenClaim := { program := "ytlfnnalepdjagaadoor", sum := "94590bdc373d626f6fad1c097210dfbef60223e0c05ceffb9278d12b0395cfc1", func := "meridian/meridianlaw01.WorldShows", spec := "worldShows", unfollowed := true, recurses := true, named := ["meridian/world.limits"], apart := false, laid := [("meridian/world.limits", laid_meridian_world_limits)], narrowed := true }
def WorldShowsUptoSaid : Prop := worldShowsUptoRow.holds Tryd.pinned (OpenSpec.upto worldShowsSpec)

/-- 'meridianlaw01.WorldHolds', WHERE WHAT IT READS IS OF BULK AT MOST 1048576: true; the input reads as it did. -/
def worldHoldsUptoRow : OpenClaim := { program := "ytlfnnalepdjagaadoor", sum := "94590bdc373d626f6fad1c097210dfbef60223e0c05ceffb9278d12b0395cfc1", func := "meridian/meridianlaw01.WorldHolds", spec := "worldHolds", unfollowed := true, recurses := true, named := ["meridian/world.limits"], apart := false, laid := [("meridian/world.limits", laid_meridian_world_limits)], narrowed := true }
def WorldHoldsUptoSaid : Prop := worldHoldsUptoRow.holds Tryd.pinned (OpenSpec.upto worldHoldsSpec)

/-- 'meridianlaw01.WorldTracks', WHERE WHAT IT READS IS OF BULK AT MOST 1048576: true; the input reads as it did. -/
def worldTracksUptoRow : OpenClaim := { program := "ytlfnnalepdjagaadoor", sum := "94590bdc373d626f6fad1c097210dfbef60223e0c05ceffb9278d12b0395cfc1", func := "meridian/meridianlaw01.WorldTracks", spec := "worldTracks", unfollowed := true, recurses := true, named := ["meridian/world.limits"], apart := false, laid := [("meridian/world.limits", laid_meridian_world_limits)], narrowed := true }
def WorldTracksUptoSaid : Prop := worldTracksUptoRow.holds Tryd.pinned (OpenSpec.upto worldTracksSpec)

/-- 'meridianlaw01.WorldSmall', WHERE WHAT IT READS IS OF BULK AT MOST 1048576: true; the input reads as it did. -/
def worldSmallUptoRow : OpenClaim := { program := "ytlfnnalepdjagaadoor", sum := "94590bdc373d626f6fad1c097210dfbef60223e0c05ceffb9278d12b0395cfc1", func := "meridian/meridianlaw01.WorldSmall", spec := "worldSmall", unfollowed := true, recurses := true, named := ["meridian/world.limits"], apart := false, laid := [("meridian/world.limits", laid_meridian_world_limits)], narrowed := true }
def WorldSmallUptoSaid : Prop := worldSmallUptoRow.holds Tryd.pinned (OpenSpec.upto worldSmallSpec)

end Rows
end Go.Proofs.YtlfnnalepdjagaaDoor
