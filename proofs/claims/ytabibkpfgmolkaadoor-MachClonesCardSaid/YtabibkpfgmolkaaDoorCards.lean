/-
  DERIVED. GIVEN WITH THE SEED: THE CARDS: each row of YtabibkpfgmolkaaDoorRows.lean that lists a variable, with what it lists TIED to the program's text (the seventh form; the later family's looks); each row that meets fmt, with fmt's text TOLD by the authors' own Lean function (tested against real Go, not proved from fmt's source: count such statements apart). THE CARD IS WHAT COUNTS. Prove the row's statement (the work); the ties are given (YtabibkpfgmolkaaDoorTie.lean); close each card by the builder's one call (the guide's Derived/Test/ToyasCard.lean, 'card_holds'). Laid BY PROGRAM, IN A SANDBOX (cutbox-door.mjs). By AI agents, Wed Nov 11 2026. No macro, syntax, notation, axiom, sorry.
-/
import Derived.Test.YtabibkpfgmolkaaDoorRows
import GoSem.ClaimSeven
namespace Go.Proofs.YtabibkpfgmolkaaDoor
namespace Rows

/-- THE TIED CARD OF 'bellcranklaw21.MachBounds'. -/
def machBoundsCard : Claim7 := { stood := { row := machBoundsRow, standIns := [], harness := (true, "57d3163eaf526814783e7e99f80582373e482ae7b5431baf77879f5221935a5e"), looks := false }, kinds := [], alts := [], laidByText := true, laidKinds := [.data, .data], laidTests := true, laidLooks := .later }
def MachBoundsCardSaid : Prop := Claim7.holds Tryd.pinned (.plain (OpenSpec.ofChange machBoundsSpec)) machBoundsCard

/-- THE TIED CARD OF 'bellcranklaw21.MachClones'. -/
def machClonesCard : Claim7 := { stood := { row := machClonesRow, standIns := [], harness := (true, "57d3163eaf526814783e7e99f80582373e482ae7b5431baf77879f5221935a5e"), looks := false }, kinds := [], alts := [], laidByText := true, laidKinds := [.data, .data], laidTests := true, laidLooks := .later }
def MachClonesCardSaid : Prop := Claim7.holds Tryd.pinned (.plain (OpenSpec.ofChange machClonesSpec)) machClonesCard

/-- THE TIED CARD OF 'bellcranklaw21.MachNobody'. -/
def machNobodyCard : Claim7 := { stood := { row := machNobodyRow, standIns := [], harness := (true, "57d3163eaf526814783e7e99f80582373e482ae7b5431baf77879f5221935a5e"), looks := false }, kinds := [], alts := [], laidByText := true, laidKinds := [.data, .data], laidTests := true, laidLooks := .later }
def MachNobodyCardSaid : Prop := Claim7.holds Tryd.pinned (.plain (OpenSpec.ofChange machNobodySpec)) machNobodyCard

/-- THE SECOND FORM's CARD OF 'bellcranklaw21.MachBounds'. -/
def machBoundsUptoCard : Claim7 := { stood := { row := machBoundsUptoRow, standIns := [], harness := (true, "57d3163eaf526814783e7e99f80582373e482ae7b5431baf77879f5221935a5e"), looks := false }, kinds := [], alts := [], laidByText := true, laidKinds := [.data, .data], laidTests := true, laidLooks := .later }
def MachBoundsUptoCardSaid : Prop := Claim7.holds Tryd.pinned (.plain (OpenSpec.upto machBoundsSpec)) machBoundsUptoCard

/-- THE SECOND FORM's CARD OF 'bellcranklaw21.MachClones'. -/
def machClonesUptoCard : Claim7 := { stood := { row := machClonesUptoRow, standIns := [], harness := (true, "57d3163eaf526814783e7e99f80582373e482ae7b5431baf77879f5221935a5e"), looks := false }, kinds := [], alts := [], laidByText := true, laidKinds := [.data, .data], laidTests := true, laidLooks := .later }
def MachClonesUptoCardSaid : Prop := Claim7.holds Tryd.pinned (.plain (OpenSpec.upto machClonesSpec)) machClonesUptoCard

/-- THE SECOND FORM's CARD OF 'bellcranklaw21.MachNobody'. -/
def machNobodyUptoCard : Claim7 := { stood := { row := machNobodyUptoRow, standIns := [], harness := (true, "57d3163eaf526814783e7e99f80582373e482ae7b5431baf77879f5221935a5e"), looks := false }, kinds := [], alts := [], laidByText := true, laidKinds := [.data, .data], laidTests := true, laidLooks := .later }
def MachNobodyUptoCardSaid : Prop := Claim7.holds Tryd.pinned (.plain (OpenSpec.upto machNobodySpec)) machNobodyUptoCard
end Rows
end Go.Proofs.YtabibkpfgmolkaaDoor
