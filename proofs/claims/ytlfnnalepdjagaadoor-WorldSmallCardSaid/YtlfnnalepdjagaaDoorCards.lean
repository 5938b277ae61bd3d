/-
  DERIVED. GIVEN WITH THE SEED: THE CARDS: each row of YtlfnnalepdjagaaDoorRows.lean that lists a variable, with what it lists TIED to the program's text (the seventh form; the later family's looks); each row that meets fmt, with fmt's text TOLD by the authors' own Lean function (tested against real Go, not proved from fmt's source: count such statements apart). THE CARD IS WHAT COUNTS. Prove the row's statement (the work); the ties are given (YtlfnnalepdjagaaDoorTie.lean); close each card by the builder's one call (the guide's Derived/Test/ToyasCard.lean, 'card_holds'). Laid BY PROGRAM, IN A SANDBOX (cutbox-door.mjs). By AI agents, Wed Nov 11 2026. No macro, syntax, notation, axiom, sorry.
-/
import Derived.Test.YtlfnnalepdjagaaDoorRows
import GoSem.ClaimSeven
namespace Go.Proofs.YtlfnnalepdjagaaDoor
namespace Rows

/-- THE TIED CARD OF 'meridianlaw01.WorldOrders'. -/
def worldOrdersCard : Claim7 := { stood := { row := worldOrdersRow, standIns := [], harness := (true, "d028da95a4651a21ac8d5c56eec07be0a345e6c80e4456dbe9af47f1692f4426"), looks := false }, kinds := [], alts := [], laidByText := true, laidKinds := [.data], laidTests := true, laidLooks := .later }
def WorldOrdersCardSaid : Prop := Claim7.holds Tryd.pinned (.plain (OpenSpec.ofChange worldOrdersSpec)) worldOrdersCard

/-- THE TIED CARD OF 'meridianlaw01.WorldExact'. -/
def worldExactCard : Claim7 := { stood := { row := worldExactRow, standIns := [], harness := (true, "d028da95a4651a21ac8d5c56eec07be0a345e6c80e4456dbe9af47f1692f4426"), looks := false }, kinds := [], alts := [], laidByText := true, laidKinds := [.data], laidTests := true, laidLooks := .later }
def WorldExactCardSaid : Prop := Claim7.holds Tryd.pinned (.plain (OpenSpec.ofChange worldExactSpec)) worldExactCard

/-- THE TIED CARD OF 'meridianlaw01.WorldWalks'. -/
def worldWalksCard : Claim7 := { stood := { row := worldWalksRow, standIns := [], harness := (true, "d028da95a4651a21ac8d5c56eec07be0a345e6c80e4456dbe9af47f1692f4426"), looks := false }, kinds := [], alts := [], laidByText := true, laidKinds := [.data], laidTests := true, laidLooks := .later }
def WorldWalksCardSaid : Prop := Claim7.holds Tryd.pinned (.plain (OpenSpec.ofChange worldWalksSpec)) worldWalksCard

/-- THE TIED CARD OF 'meridianlaw01.WorldShows'. -/
def worldShowsCard : Claim7 := { stood := { row := worldShowsRow, standIns := [], harness := (true, "d028da95a4651a21ac8d5c56eec07be0a345e6c80e4456dbe9af47f1692f4426"), looks := false }, kinds := [], alts := [], laidByText := true, laidKinds := [.data], laidTests := true, laidLooks := .later }
def WorldShowsCardSaid : Prop := Claim7.holds Tryd.pinned (.plain (OpenSpec.ofChange worldShowsSpec)) worldShowsCard

/-- THE TIED CARD OF 'meridianlaw01.WorldHolds'. -/
def worldHoldsCard : Claim7 := { stood := { row := worldHoldsRow, standIns := [], harness := (true, "d028da95a4651a21ac8d5c56eec07be0a345e6c80e4456dbe9af47f1692f4426"), looks := false }, kinds := [], alts := [], laidByText := true, laidKinds := [.data], laidTests := true, laidLooks := .later }
def WorldHoldsCardSaid : Prop := Claim7.holds Tryd.pinned (.plain (OpenSpec.ofChange worldHoldsSpec)) worldHoldsCard

/-- THE TIED CARD OF 'meridianlaw01.WorldTracks'. -/
def worldTracksCard : Claim7 := { stood := { row := worldTracksRow, standIns := [], harness := (true, "d028da95a4651a21ac8d5c56eec07be0a345e6c80e4456dbe9af47f1692f4426"), looks := false }, kinds := [], alts := [], laidByText := true, laidKinds := [.data], laidTests := true, laidLooks := .later }
def WorldTracksCardSaid : Prop := Claim7.holds Tryd.pinned (.plain (OpenSpec.ofChange worldTracksSpec)) worldTracksCard

/-- THE TIED CARD OF 'meridianlaw01.WorldSmall'. -/
def worldSmallCard : Claim7 := { stood := { row := worldSmallRow, standIns := [], harness := (true, "d028da95a4651a21ac8d5c56eec07be0a345e6c80e4456dbe9af47f1692f4426"), looks := false }, kinds := [], alts := [], laidByText := true, laidKinds := [.data], laidTests := true, laidLooks := .later }
def WorldSmallCardSaid : Prop := Claim7.holds Tryd.pinned (.plain (OpenSpec.ofChange worldSmallSpec)) worldSmallCard

/-- THE SECOND FORM's CARD OF 'meridianlaw01.WorldOrders'. -/
def worldOrdersUptoCard : Claim7 := { stood := { row := worldOrdersUptoRow, standIns := [], harness := (true, "d028da95a4651a21ac8d5c56eec07be0a345e6c80e4456dbe9af47f1692f4426"), looks := false }, kinds := [], alts := [], laidByText := true, laidKinds := [.data], laidTests := true, laidLooks := .later }
def WorldOrdersUptoCardSaid : Prop := Claim7.holds Tryd.pinned (.plain (OpenSpec.upto worldOrdersSpec)) worldOrdersUptoCard

/-- THE SECOND FORM's CARD OF 'meridianlaw01.WorldExact'. -/
def worldExactUptoCard : Claim7 := { stood := { row := worldExactUptoRow, standIns := [], harness := (true, "d028da95a4651a21ac8d5c56eec07be0a345e6c80e4456dbe9af47f1692f4426"), looks := false }, kinds := [], alts := [], laidByText := true, laidKinds := [.data], laidTests := true, laidLooks := .later }
def WorldExactUptoCardSaid : Prop := Claim7.holds Tryd.pinned (.plain (OpenSpec.upto worldExactSpec)) worldExactUptoCard

/-- THE SECOND FORM's CARD OF 'meridianlaw01.WorldWalks'. -/
def worldWalksUptoCard : Claim7 := { stood := { row := worldWalksUptoRow, standIns := [], harness := (true, "d028da95a4651a21ac8d5c56eec07be0a345e6c80e4456dbe9af47f1692f4426"), looks := false }, kinds := [], alts := [], laidByText := true, laidKinds := [.data], laidTests := true, laidLooks := .later }
def WorldWalksUptoCardSaid : Prop := Claim7.holds Tryd.pinned (.plain (OpenSpec.upto worldWalksSpec)) worldWalksUptoCard

/-- THE SECOND FORM's CARD OF 'meridianlaw01.WorldShows'. -/
def worldShowsUptoCard : Claim7 := { stood := { row := worldShowsUptoRow, standIns := [], harness := (true, "d028da95a4651a21ac8d5c56eec07be0a345e6c80e4456dbe9af47f1692f4426"), looks := false }, kinds := [], alts := [], laidByText := true, laidKinds := [.data], laidTests := true, laidLooks := .later }
def WorldShowsUptoCardSaid : Prop := Claim7.holds Tryd.pinned (.plain (OpenSpec.upto worldShowsSpec)) worldShowsUptoCard

/-- THE SECOND FORM's CARD OF 'meridianlaw01.WorldHolds'. -/
def worldHoldsUptoCard : Claim7 := { stood := { row := worldHoldsUptoRow, standIns := [], harness := (true, "d028da95a4651a21ac8d5c56eec07be0a345e6c80e4456dbe9af47f1692f4426"), looks := false }, kinds := [], alts := [], laidByText := true, laidKinds := [.data], laidTests := true, laidLooks := .later }
def WorldHoldsUptoCardSaid : Prop := Claim7.holds Tryd.pinned (.plain (OpenSpec.upto worldHoldsSpec)) worldHoldsUptoCard

/-- THE SECOND FORM's CARD OF 'meridianlaw01.WorldTracks'. -/
def worldTracksUptoCard : Claim7 := { stood := { row := worldTracksUptoRow, standIns := [], harness := (true, "d028da95a4651a21ac8d5c56eec07be0a345e6c80e4456dbe9af47f1692f4426"), looks := false }, kinds := [], alts := [], laidByText := true, laidKinds := [.data], laidTests := true, laidLooks := .later }
def WorldTracksUptoCardSaid : Prop := Claim7.holds Tryd.pinned (.plain (OpenSpec.upto worldTracksSpec)) worldTracksUptoCard

/-- THE SECOND FORM's CARD OF 'meridianlaw01.WorldSmall'. -/
def worldSmallUptoCard : Claim7 := { stood := { row := worldSmallUptoRow, standIns := [], harness := (true, "d028da95a4651a21ac8d5c56eec07be0a345e6c80e4456dbe9af47f1692f4426"), looks := false }, kinds := [], alts := [], laidByText := true, laidKinds := [.data], laidTests := true, laidLooks := .later }
def WorldSmallUptoCardSaid : Prop := Claim7.holds Tryd.pinned (.plain (OpenSpec.upto worldSmallSpec)) worldSmallUptoCard
end Rows
end Go.Proofs.YtlfnnalepdjagaaDoor
