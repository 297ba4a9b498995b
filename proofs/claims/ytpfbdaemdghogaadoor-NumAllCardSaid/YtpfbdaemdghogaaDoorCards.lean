/-
  DERIVED. GIVEN WITH THE SEED: THE CARDS: each row of YtpfbdaemdghogaaDoorRows.lean that lists a variable, with what it lists TIED to the program's text (the seventh form; the later family's looks); each row that meets fmt, with fmt's text TOLD by the authors' own Lean function (tested against real Go, not proved from fmt's source: count such statements apart). THE CARD IS WHAT COUNTS. Prove the row's statement (the work); the ties are given (YtpfbdaemdghogaaDoorTie.lean); close each card by the builder's one call (the guide's Derived/Test/ToyasCard.lean, 'card_holds'). Laid BY PROGRAM, IN A SANDBOX (cutbox-door.mjs). By AI agents, Wed Nov 11 2026. No macro, syntax, notation, axiom, sorry.
-/
import Derived.Test.YtpfbdaemdghogaaDoorRows
import GoSem.ClaimSeven
namespace Go.Proofs.YtpfbdaemdghogaaDoor
namespace Rows

/-- THE TIED CARD OF 'bellcranklaw02.NumEvals'. -/
def numEvalsCard : Claim7 := { stood := { row := numEvalsRow, standIns := [], harness := (true, "f69e0f2fcca677f4821ac4a4a171eb72e793f82541982e98f54ff3975e16f591"), looks := false }, kinds := [], alts := [], laidByText := true, laidKinds := [.data, .data], laidTests := true, laidLooks := .later }
def NumEvalsCardSaid : Prop := Claim7.holds Tryd.pinned (.plain (OpenSpec.ofChange numEvalsSpec)) numEvalsCard

/-- THE TIED CARD OF 'bellcranklaw02.NumAll'. -/
def numAllCard : Claim7 := { stood := { row := numAllRow, standIns := [], harness := (true, "f69e0f2fcca677f4821ac4a4a171eb72e793f82541982e98f54ff3975e16f591"), looks := false }, kinds := [], alts := [], laidByText := true, laidKinds := [.data, .data], laidTests := true, laidLooks := .later }
def NumAllCardSaid : Prop := Claim7.holds Tryd.pinned (.plain (OpenSpec.ofChange numAllSpec)) numAllCard

/-- THE TIED CARD OF 'bellcranklaw02.NumRest'. -/
def numRestCard : Claim7 := { stood := { row := numRestRow, standIns := [], harness := (true, "f69e0f2fcca677f4821ac4a4a171eb72e793f82541982e98f54ff3975e16f591"), looks := false }, kinds := [], alts := [], laidByText := true, laidKinds := [.data, .data], laidTests := true, laidLooks := .later }
def NumRestCardSaid : Prop := Claim7.holds Tryd.pinned (.plain (OpenSpec.ofChange numRestSpec)) numRestCard

/-- THE TIED CARD OF 'bellcranklaw02.NumTurns'. -/
def numTurnsCard : Claim7 := { stood := { row := numTurnsRow, standIns := [], harness := (true, "f69e0f2fcca677f4821ac4a4a171eb72e793f82541982e98f54ff3975e16f591"), looks := false }, kinds := [], alts := [], laidByText := true, laidKinds := [.data, .data], laidTests := true, laidLooks := .later }
def NumTurnsCardSaid : Prop := Claim7.holds Tryd.pinned (.plain (OpenSpec.ofChange numTurnsSpec)) numTurnsCard

/-- THE TIED CARD OF 'bellcranklaw02.NumFits'. -/
def numFitsCard : Claim7 := { stood := { row := numFitsRow, standIns := [], harness := (true, "f69e0f2fcca677f4821ac4a4a171eb72e793f82541982e98f54ff3975e16f591"), looks := false }, kinds := [], alts := [], laidByText := true, laidKinds := [.data, .data], laidTests := true, laidLooks := .later }
def NumFitsCardSaid : Prop := Claim7.holds Tryd.pinned (.plain (OpenSpec.ofChange numFitsSpec)) numFitsCard

/-- THE TIED CARD OF 'bellcranklaw02.NumCommutes'. -/
def numCommutesCard : Claim7 := { stood := { row := numCommutesRow, standIns := [], harness := (true, "f69e0f2fcca677f4821ac4a4a171eb72e793f82541982e98f54ff3975e16f591"), looks := false }, kinds := [], alts := [], laidByText := true, laidKinds := [.data, .data], laidTests := true, laidLooks := .later }
def NumCommutesCardSaid : Prop := Claim7.holds Tryd.pinned (.plain (OpenSpec.ofChange numCommutesSpec)) numCommutesCard

/-- THE TIED CARD OF 'bellcranklaw02.NumSigs'. -/
def numSigsCard : Claim7 := { stood := { row := numSigsRow, standIns := [], harness := (true, "f69e0f2fcca677f4821ac4a4a171eb72e793f82541982e98f54ff3975e16f591"), looks := false }, kinds := [], alts := [], laidByText := true, laidKinds := [.data, .data], laidTests := true, laidLooks := .later }
def NumSigsCardSaid : Prop := Claim7.holds Tryd.pinned (.plain (OpenSpec.ofChange numSigsSpec)) numSigsCard

/-- THE SECOND FORM's CARD OF 'bellcranklaw02.NumEvals'. -/
def numEvalsUptoCard : Claim7 := { stood := { row := numEvalsUptoRow, standIns := [], harness := (true, "f69e0f2fcca677f4821ac4a4a171eb72e793f82541982e98f54ff3975e16f591"), looks := false }, kinds := [], alts := [], laidByText := true, laidKinds := [.data, .data], laidTests := true, laidLooks := .later }
def NumEvalsUptoCardSaid : Prop := Claim7.holds Tryd.pinned (.plain (OpenSpec.upto numEvalsSpec)) numEvalsUptoCard

/-- THE SECOND FORM's CARD OF 'bellcranklaw02.NumAll'. -/
def numAllUptoCard : Claim7 := { stood := { row := numAllUptoRow, standIns := [], harness := (true, "f69e0f2fcca677f4821ac4a4a171eb72e793f82541982e98f54ff3975e16f591"), looks := false }, kinds := [], alts := [], laidByText := true, laidKinds := [.data, .data], laidTests := true, laidLooks := .later }
def NumAllUptoCardSaid : Prop := Claim7.holds Tryd.pinned (.plain (OpenSpec.upto numAllSpec)) numAllUptoCard

/-- THE SECOND FORM's CARD OF 'bellcranklaw02.NumRest'. -/
def numRestUptoCard : Claim7 := { stood := { row := numRestUptoRow, standIns := [], harness := (true, "f69e0f2fcca677f4821ac4a4a171eb72e793f82541982e98f54ff3975e16f591"), looks := false }, kinds := [], alts := [], laidByText := true, laidKinds := [.data, .data], laidTests := true, laidLooks := .later }
def NumRestUptoCardSaid : Prop := Claim7.holds Tryd.pinned (.plain (OpenSpec.upto numRestSpec)) numRestUptoCard

/-- THE SECOND FORM's CARD OF 'bellcranklaw02.NumTurns'. -/
def numTurnsUptoCard : Claim7 := { stood := { row := numTurnsUptoRow, standIns := [], harness := (true, "f69e0f2fcca677f4821ac4a4a171eb72e793f82541982e98f54ff3975e16f591"), looks := false }, kinds := [], alts := [], laidByText := true, laidKinds := [.data, .data], laidTests := true, laidLooks := .later }
def NumTurnsUptoCardSaid : Prop := Claim7.holds Tryd.pinned (.plain (OpenSpec.upto numTurnsSpec)) numTurnsUptoCard

/-- THE SECOND FORM's CARD OF 'bellcranklaw02.NumFits'. -/
def numFitsUptoCard : Claim7 := { stood := { row := numFitsUptoRow, standIns := [], harness := (true, "f69e0f2fcca677f4821ac4a4a171eb72e793f82541982e98f54ff3975e16f591"), looks := false }, kinds := [], alts := [], laidByText := true, laidKinds := [.data, .data], laidTests := true, laidLooks := .later }
def NumFitsUptoCardSaid : Prop := Claim7.holds Tryd.pinned (.plain (OpenSpec.upto numFitsSpec)) numFitsUptoCard

/-- THE SECOND FORM's CARD OF 'bellcranklaw02.NumCommutes'. -/
def numCommutesUptoCard : Claim7 := { stood := { row := numCommutesUptoRow, standIns := [], harness := (true, "f69e0f2fcca677f4821ac4a4a171eb72e793f82541982e98f54ff3975e16f591"), looks := false }, kinds := [], alts := [], laidByText := true, laidKinds := [.data, .data], laidTests := true, laidLooks := .later }
def NumCommutesUptoCardSaid : Prop := Claim7.holds Tryd.pinned (.plain (OpenSpec.upto numCommutesSpec)) numCommutesUptoCard

/-- THE SECOND FORM's CARD OF 'bellcranklaw02.NumSigs'. -/
def numSigsUptoCard : Claim7 := { stood := { row := numSigsUptoRow, standIns := [], harness := (true, "f69e0f2fcca677f4821ac4a4a171eb72e793f82541982e98f54ff3975e16f591"), looks := false }, kinds := [], alts := [], laidByText := true, laidKinds := [.data, .data], laidTests := true, laidLooks := .later }
def NumSigsUptoCardSaid : Prop := Claim7.holds Tryd.pinned (.plain (OpenSpec.upto numSigsSpec)) numSigsUptoCard
end Rows
end Go.Proofs.YtpfbdaemdghogaaDoor
