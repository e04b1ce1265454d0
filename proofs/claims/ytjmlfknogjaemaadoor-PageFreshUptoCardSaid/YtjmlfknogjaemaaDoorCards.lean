/-
  DERIVED. GIVEN WITH THE SEED: THE CARDS: each row of YtjmlfknogjaemaaDoorRows.lean that lists a variable, with what it lists TIED to the program's text (the seventh form; the later family's looks); each row that meets fmt, with fmt's text TOLD by the authors' own Lean function (tested against real Go, not proved from fmt's source: count such statements apart). THE CARD IS WHAT COUNTS. Prove the row's statement (the work); the ties are given (YtjmlfknogjaemaaDoorTie.lean); close each card by the builder's one call (the guide's Derived/Test/ToyasCard.lean, 'card_holds'). Laid BY PROGRAM, IN A SANDBOX (cutbox-door.mjs). By AI agents, Wed Nov 11 2026. No macro, syntax, notation, axiom, sorry.
-/
import Derived.Test.YtjmlfknogjaemaaDoorRows
import GoSem.ClaimSeven
namespace Go.Proofs.YtjmlfknogjaemaaDoor
namespace Rows

/-- THE TIED CARD OF 'gatehouselaw12.PageFull'. -/
def pageFullCard : Claim7 := { stood := { row := pageFullRow, standIns := [], harness := (true, "504b844575efb2daaad19f2ae4d1e3909c9586361cea85070106ca38d9026bfc"), looks := false }, kinds := [], alts := [], laidByText := true, laidKinds := [.data, .data, .data], laidTests := true, laidLooks := .later }
def PageFullCardSaid : Prop := Claim7.holds Tryd.pinned (.plain (OpenSpec.ofChange pageFullSpec)) pageFullCard

/-- THE TIED CARD OF 'gatehouselaw12.PageFresh'. -/
def pageFreshCard : Claim7 := { stood := { row := pageFreshRow, standIns := [], harness := (true, "504b844575efb2daaad19f2ae4d1e3909c9586361cea85070106ca38d9026bfc"), looks := false }, kinds := [], alts := [], laidByText := true, laidKinds := [.data, .data, .data], laidTests := true, laidLooks := .later }
def PageFreshCardSaid : Prop := Claim7.holds Tryd.pinned (.plain (OpenSpec.ofChange pageFreshSpec)) pageFreshCard

/-- THE SECOND FORM's CARD OF 'gatehouselaw12.PageFull'. -/
def pageFullUptoCard : Claim7 := { stood := { row := pageFullUptoRow, standIns := [], harness := (true, "504b844575efb2daaad19f2ae4d1e3909c9586361cea85070106ca38d9026bfc"), looks := false }, kinds := [], alts := [], laidByText := true, laidKinds := [.data, .data, .data], laidTests := true, laidLooks := .later }
def PageFullUptoCardSaid : Prop := Claim7.holds Tryd.pinned (.plain (OpenSpec.upto pageFullSpec)) pageFullUptoCard

/-- THE SECOND FORM's CARD OF 'gatehouselaw12.PageFresh'. -/
def pageFreshUptoCard : Claim7 := { stood := { row := pageFreshUptoRow, standIns := [], harness := (true, "504b844575efb2daaad19f2ae4d1e3909c9586361cea85070106ca38d9026bfc"), looks := false }, kinds := [], alts := [], laidByText := true, laidKinds := [.data, .data, .data], laidTests := true, laidLooks := .later }
def PageFreshUptoCardSaid : Prop := Claim7.holds Tryd.pinned (.plain (OpenSpec.upto pageFreshSpec)) pageFreshUptoCard
end Rows
end Go.Proofs.YtjmlfknogjaemaaDoor
