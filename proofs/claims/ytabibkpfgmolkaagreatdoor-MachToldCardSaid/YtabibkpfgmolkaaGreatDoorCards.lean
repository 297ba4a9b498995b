/-
  DERIVED. GIVEN WITH THE SEED: THE CARDS: each row of YtabibkpfgmolkaaGreatDoorRows.lean that lists a variable, with what it lists TIED to the program's text (the seventh form; the later family's looks); each row that meets fmt, with fmt's text TOLD by the authors' own Lean function (tested against real Go, not proved from fmt's source: count such statements apart). THE CARD IS WHAT COUNTS. Prove the row's statement (the work); the ties are given (YtabibkpfgmolkaaGreatDoorTie.lean); close each card by the builder's one call (the guide's Derived/Test/ToyasCard.lean, 'card_holds'). Laid BY PROGRAM, IN A SANDBOX (cutbox-door.mjs). By AI agents, Wed Nov 11 2026. No macro, syntax, notation, axiom, sorry.
-/
import Derived.Test.YtabibkpfgmolkaaGreatDoorRows
import GoSem.ClaimSeven
namespace Go.Proofs.YtabibkpfgmolkaaGreatDoor
namespace Rows

/-- THE TIED CARD OF 'bellcranklaw21.MachSteps'. -/
def machStepsCard : Claim7 := { stood := { row := machStepsRow, standIns := [], harness := (true, "d58769e3c9fd034ea79c1ca642e5a93e216b8ad82f02424bdc91febf6597118f"), looks := false }, kinds := [], alts := [], laidByText := true, laidKinds := [.data, .data], laidTests := true, laidLooks := .later }
def MachStepsCardSaid : Prop := Claim7.holds Tryz.pinned (.plain (OpenSpec.ofChange machStepsSpec)) machStepsCard

/-- THE TIED CARD OF 'bellcranklaw21.MachOwn'. -/
def machOwnCard : Claim7 := { stood := { row := machOwnRow, standIns := [], harness := (true, "d58769e3c9fd034ea79c1ca642e5a93e216b8ad82f02424bdc91febf6597118f"), looks := false }, kinds := [], alts := [], laidByText := true, laidKinds := [.data, .data], laidTests := true, laidLooks := .later }
def MachOwnCardSaid : Prop := Claim7.holds Tryz.pinned (.plain (OpenSpec.ofChange machOwnSpec)) machOwnCard

/-- THE TIED CARD OF 'bellcranklaw21.MachRuns'. -/
def machRunsCard : Claim7 := { stood := { row := machRunsRow, standIns := [], harness := (true, "d58769e3c9fd034ea79c1ca642e5a93e216b8ad82f02424bdc91febf6597118f"), looks := false }, kinds := [], alts := [], laidByText := true, laidKinds := [.data, .data], laidTests := true, laidLooks := .later }
def MachRunsCardSaid : Prop := Claim7.holds Tryz.pinned (.plain (OpenSpec.ofChange machRunsSpec)) machRunsCard

/-- THE TIED CARD OF 'bellcranklaw21.MachTold'. -/
def machToldCard : Claim7 := { stood := { row := machToldRow, standIns := [], harness := (true, "d58769e3c9fd034ea79c1ca642e5a93e216b8ad82f02424bdc91febf6597118f"), looks := false }, kinds := [], alts := [], laidByText := true, laidKinds := [.data, .data], laidTests := true, laidLooks := .later }
def MachToldCardSaid : Prop := Claim7.holds Tryz.pinned (.plain (OpenSpec.ofChange machToldSpec)) machToldCard

/-- THE SECOND FORM's CARD OF 'bellcranklaw21.MachSteps'. -/
def machStepsUptoCard : Claim7 := { stood := { row := machStepsUptoRow, standIns := [], harness := (true, "d58769e3c9fd034ea79c1ca642e5a93e216b8ad82f02424bdc91febf6597118f"), looks := false }, kinds := [], alts := [], laidByText := true, laidKinds := [.data, .data], laidTests := true, laidLooks := .later }
def MachStepsUptoCardSaid : Prop := Claim7.holds Tryz.pinned (.plain (OpenSpec.upto machStepsSpec)) machStepsUptoCard

/-- THE SECOND FORM's CARD OF 'bellcranklaw21.MachOwn'. -/
def machOwnUptoCard : Claim7 := { stood := { row := machOwnUptoRow, standIns := [], harness := (true, "d58769e3c9fd034ea79c1ca642e5a93e216b8ad82f02424bdc91febf6597118f"), looks := false }, kinds := [], alts := [], laidByText := true, laidKinds := [.data, .data], laidTests := true, laidLooks := .later }
def MachOwnUptoCardSaid : Prop := Claim7.holds Tryz.pinned (.plain (OpenSpec.upto machOwnSpec)) machOwnUptoCard

/-- THE SECOND FORM's CARD OF 'bellcranklaw21.MachRuns'. -/
def machRunsUptoCard : Claim7 := { stood := { row := machRunsUptoRow, standIns := [], harness := (true, "d58769e3c9fd034ea79c1ca642e5a93e216b8ad82f02424bdc91febf6597118f"), looks := false }, kinds := [], alts := [], laidByText := true, laidKinds := [.data, .data], laidTests := true, laidLooks := .later }
def MachRunsUptoCardSaid : Prop := Claim7.holds Tryz.pinned (.plain (OpenSpec.upto machRunsSpec)) machRunsUptoCard

/-- THE SECOND FORM's CARD OF 'bellcranklaw21.MachTold'. -/
def machToldUptoCard : Claim7 := { stood := { row := machToldUptoRow, standIns := [], harness := (true, "d58769e3c9fd034ea79c1ca642e5a93e216b8ad82f02424bdc91febf6597118f"), looks := false }, kinds := [], alts := [], laidByText := true, laidKinds := [.data, .data], laidTests := true, laidLooks := .later }
def MachToldUptoCardSaid : Prop := Claim7.holds Tryz.pinned (.plain (OpenSpec.upto machToldSpec)) machToldUptoCard
end Rows
end Go.Proofs.YtabibkpfgmolkaaGreatDoor
