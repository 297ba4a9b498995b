/-
  No cell of these rows narrows 'for every input' (looked for: loops, veiled, ifaces, maps, wideKeys, modest, calm, conditions, laid).
  DERIVED. THE GIVEN ROWS OF THIS SEAT. 7 by the template 'for every input the law returns true; each argument reads behind the call as it read before'; 0 by the template 'total and deterministic' (their statements: YtbnfhcdodejmhaaTotals.lean).
  GIVEN WITH THE SEED: the statements are not yours to turn. If you find one false, say at which input.
  Laid BY PROGRAM, IN A SANDBOX (cutbox-rows.mjs): the forced cells as the released guide's own fill.sh prints them over the translation b35678c7c10799ce… (all of the seat's roots in one cut). By AI agents, Wed Nov 11 2026. No macro, syntax, notation, axiom, sorry.
-/
import Derived.Test.YtbnfhcdodejmhaaChecked
import GoSem.Claim
import GoSem.ClaimJoined
import GoSem.ClaimMapViews
import Derived.JoinedTies
import Derived.KernelRfl
namespace Go.Proofs.Ytbnfhcdodejmhaa
/- THE CELL 'sum', in the pinned program and in every row, IS THE sha256 OF THE DUMP (.gsa) THAT YtbnfhcdodejmhaaProg.lean LOADS. Nothing in Lean hashes anything: it is a label: what it is worth is what the hold of that sum in a sandbox is worth. -/
noncomputable def Try.pinned : Pinned := { name := "ytbnfhcdodejmhaa", sum := "b35678c7c10799cefbdd90e548ba86061ce2369b9a4deb9f00ad747bec7a36f8", checked := Try.checked }
namespace Rows
def none {H : Type} : Left H := { results := [], args := [] }

/-- 'bellcranklaw17.MovesRights': WHATEVER THE INPUT: true; the input reads as it did. -/
def movesRightsSpec : ChangeSpec := { name := "movesRights", fn := fun _ => fun
  | [d] => { results := [.lit (.bool true)], args := [d] }
  | _ => none }
def movesRightsRow : OpenClaim := { program := "ytbnfhcdodejmhaa", sum := "b35678c7c10799cefbdd90e548ba86061ce2369b9a4deb9f00ad747bec7a36f8", func := "bellcrank/bellcranklaw17.MovesRights", spec := "movesRights", unfollowed := true, recurses := true, apart := false }
def MovesRightsSaid : Prop := movesRightsRow.holds Try.pinned (OpenSpec.ofChange movesRightsSpec)

/-- ITS FALSE NEIGHBOUR: 'it returns false'. Refute it at one input. -/
def movesRightsWrong : ChangeSpec := { name := "movesRights", fn := fun _ => fun
  | [d] => { results := [.lit (.bool false)], args := [d] }
  | _ => none }
def MovesRightsWrongFalsely : Prop := movesRightsRow.holds Try.pinned (OpenSpec.ofChange movesRightsWrong)

/-- 'bellcranklaw17.MovesDo': WHATEVER THE INPUT: true; the input reads as it did. -/
def movesDoSpec : ChangeSpec := { name := "movesDo", fn := fun _ => fun
  | [d1, d2] => { results := [.lit (.bool true)], args := [d1, d2] }
  | _ => none }
def movesDoRow : OpenClaim := { program := "ytbnfhcdodejmhaa", sum := "b35678c7c10799cefbdd90e548ba86061ce2369b9a4deb9f00ad747bec7a36f8", func := "bellcrank/bellcranklaw17.MovesDo", spec := "movesDo", unfollowed := true, recurses := true, apart := false }
def MovesDoSaid : Prop := movesDoRow.holds Try.pinned (OpenSpec.ofChange movesDoSpec)

/-- ITS FALSE NEIGHBOUR: 'it returns false'. Refute it at one input. -/
def movesDoWrong : ChangeSpec := { name := "movesDo", fn := fun _ => fun
  | [d1, d2] => { results := [.lit (.bool false)], args := [d1, d2] }
  | _ => none }
def MovesDoWrongFalsely : Prop := movesDoRow.holds Try.pinned (OpenSpec.ofChange movesDoWrong)

/-- 'bellcranklaw17.MovesRefused': WHATEVER THE INPUT: true; the input reads as it did. -/
def movesRefusedSpec : ChangeSpec := { name := "movesRefused", fn := fun _ => fun
  | [d1, d2] => { results := [.lit (.bool true)], args := [d1, d2] }
  | _ => none }
def movesRefusedRow : OpenClaim := { program := "ytbnfhcdodejmhaa", sum := "b35678c7c10799cefbdd90e548ba86061ce2369b9a4deb9f00ad747bec7a36f8", func := "bellcrank/bellcranklaw17.MovesRefused", spec := "movesRefused", unfollowed := true, recurses := true, apart := false }
def MovesRefusedSaid : Prop := movesRefusedRow.holds Try.pinned (OpenSpec.ofChange movesRefusedSpec)

/-- ITS FALSE NEIGHBOUR: 'it returns false'. Refute it at one input. -/
def movesRefusedWrong : ChangeSpec := { name := "movesRefused", fn := fun _ => fun
  | [d1, d2] => { results := [.lit (.bool false)], args := [d1, d2] }
  | _ => none }
def MovesRefusedWrongFalsely : Prop := movesRefusedRow.holds Try.pinned (OpenSpec.ofChange movesRefusedWrong)

/-- 'bellcranklaw17.MovesLeave': WHATEVER THE INPUT: true; the input reads as it did. -/
def movesLeaveSpec : ChangeSpec := { name := "movesLeave", fn := fun _ => fun
  | [d1, d2, d3] => { results := [.lit (.bool true)], args := [d1, d2, d3] }
  | _ => none }
def movesLeaveRow : OpenClaim := { program := "ytbnfhcdodejmhaa", sum := "b35678c7c10799cefbdd90e548ba86061ce2369b9a4deb9f00ad747bec7a36f8", func := "bellcrank/bellcranklaw17.MovesLeave", spec := "movesLeave", unfollowed := true, recurses := true, apart := false }
def MovesLeaveSaid : Prop := movesLeaveRow.holds Try.pinned (OpenSpec.ofChange movesLeaveSpec)

/-- ITS FALSE NEIGHBOUR: 'it returns false'. Refute it at one input. -/
def movesLeaveWrong : ChangeSpec := { name := "movesLeave", fn := fun _ => fun
  | [d1, d2, d3] => { results := [.lit (.bool false)], args := [d1, d2, d3] }
  | _ => none }
def MovesLeaveWrongFalsely : Prop := movesLeaveRow.holds Try.pinned (OpenSpec.ofChange movesLeaveWrong)

/-- 'bellcranklaw17.MovesFew': WHATEVER THE INPUT: true; the input reads as it did. -/
def movesFewSpec : ChangeSpec := { name := "movesFew", fn := fun _ => fun
  | [d1, d2] => { results := [.lit (.bool true)], args := [d1, d2] }
  | _ => none }
def movesFewRow : OpenClaim := { program := "ytbnfhcdodejmhaa", sum := "b35678c7c10799cefbdd90e548ba86061ce2369b9a4deb9f00ad747bec7a36f8", func := "bellcrank/bellcranklaw17.MovesFew", spec := "movesFew", unfollowed := true, recurses := true, apart := false }
def MovesFewSaid : Prop := movesFewRow.holds Try.pinned (OpenSpec.ofChange movesFewSpec)

/-- ITS FALSE NEIGHBOUR: 'it returns false'. Refute it at one input. -/
def movesFewWrong : ChangeSpec := { name := "movesFew", fn := fun _ => fun
  | [d1, d2] => { results := [.lit (.bool false)], args := [d1, d2] }
  | _ => none }
def MovesFewWrongFalsely : Prop := movesFewRow.holds Try.pinned (OpenSpec.ofChange movesFewWrong)

/-- 'bellcranklaw17.MovesAsk': WHATEVER THE INPUT: true; the input reads as it did. -/
def movesAskSpec : ChangeSpec := { name := "movesAsk", fn := fun _ => fun
  | [d1, d2] => { results := [.lit (.bool true)], args := [d1, d2] }
  | _ => none }
def movesAskRow : OpenClaim := { program := "ytbnfhcdodejmhaa", sum := "b35678c7c10799cefbdd90e548ba86061ce2369b9a4deb9f00ad747bec7a36f8", func := "bellcrank/bellcranklaw17.MovesAsk", spec := "movesAsk", unfollowed := true, recurses := true, apart := false }
def MovesAskSaid : Prop := movesAskRow.holds Try.pinned (OpenSpec.ofChange movesAskSpec)

/-- ITS FALSE NEIGHBOUR: 'it returns false'. Refute it at one input. -/
def movesAskWrong : ChangeSpec := { name := "movesAsk", fn := fun _ => fun
  | [d1, d2] => { results := [.lit (.bool false)], args := [d1, d2] }
  | _ => none }
def MovesAskWrongFalsely : Prop := movesAskRow.holds Try.pinned (OpenSpec.ofChange movesAskWrong)

/-- 'bellcranklaw17.MovesOwn': WHATEVER THE INPUT: true; the input reads as it did. -/
def movesOwnSpec : ChangeSpec := { name := "movesOwn", fn := fun _ => fun
  | [d1, d2, d3] => { results := [.lit (.bool true)], args := [d1, d2, d3] }
  | _ => none }
def movesOwnRow : OpenClaim := { program := "ytbnfhcdodejmhaa", sum := "b35678c7c10799cefbdd90e548ba86061ce2369b9a4deb9f00ad747bec7a36f8", func := "bellcrank/bellcranklaw17.MovesOwn", spec := "movesOwn", unfollowed := true, recurses := true, apart := false }
def MovesOwnSaid : Prop := movesOwnRow.holds Try.pinned (OpenSpec.ofChange movesOwnSpec)

/-- ITS FALSE NEIGHBOUR: 'it returns false'. Refute it at one input. -/
def movesOwnWrong : ChangeSpec := { name := "movesOwn", fn := fun _ => fun
  | [d1, d2, d3] => { results := [.lit (.bool false)], args := [d1, d2, d3] }
  | _ => none }
def MovesOwnWrongFalsely : Prop := movesOwnRow.holds Try.pinned (OpenSpec.ofChange movesOwnWrong)

/- THE SECOND FORM. 'bulk': how many values and letters a reading holds, each counted each time it is reached (what is shared counts as often as it is met; a slice's spare places count too). A statement '..UptoSaid' is the law's where the arguments, and the package variables that the reading takes, are together of bulk at most 1048576: NARROWER than '..Said'. Prove '..Said' where nothing that the law and all that it calls make is longer than what came in: it says more and counts as full. Else prove '..UptoSaid'. A law counts once. -/
mutual
def uptoBulk {H : Type} : DataW H → Nat
  | .lit (.string bytes) => bytes.length + 1
  | .lit _ => 1
  | .nil => 1
  | .ptr d => uptoBulk d + 1
  | .slice elems spare => uptoBulkAll elems + uptoBulkAll spare + 1
  | .agg parts => uptoBulkAll parts + 1
  | .iface _ d => uptoBulk d + 1
  | .map entries => uptoBulkEntries entries + 1
  | .held _ => 1
def uptoBulkAll {H : Type} : List (DataW H) → Nat
  | [] => 0
  | d :: r => uptoBulk d + uptoBulkAll r
def uptoBulkEntries {H : Type} : List (Lit × DataW H) → Nat
  | [] => 0
  | x :: r => uptoBulkEntry x + uptoBulkEntries r
def uptoBulkEntry {H : Type} : Lit × DataW H → Nat
  | (.string bytes, d) => bytes.length + uptoBulk d + 1
  | (_, d) => uptoBulk d + 1
 end
def uptoSmall : (H : Type) → List (DataW H) → Bool := fun _ ds => decide (uptoBulkAll ds ≤ 1048576)
def OpenSpec.upto (s : _root_.Go.ChangeSpec) : _root_.Go.OpenSpec := { _root_.Go.OpenSpec.ofChange s with cond := some uptoSmall }

/-- 'bellcranklaw17.MovesRights', WHERE WHAT IT READS IS OF BULK AT MOST 1048576: true; the input reads as it did. -/
def movesRightsUptoRow : OpenClaim := { program := "ytbnfhcdodejmhaa", sum := "b35678c7c10799cefbdd90e548ba86061ce2369b9a4deb9f00ad747bec7a36f8", func := "bellcrank/bellcranklaw17.MovesRights", spec := "movesRights", unfollowed := true, recurses := true, apart := false, narrowed := true }
def MovesRightsUptoSaid : Prop := movesRightsUptoRow.holds Try.pinned (OpenSpec.upto movesRightsSpec)

/-- 'bellcranklaw17.MovesDo', WHERE WHAT IT READS IS OF BULK AT MOST 1048576: true; the input reads as it did. -/
def movesDoUptoRow : OpenClaim := { program := "ytbnfhcdodejmhaa", sum := "b35678c7c10799cefbdd90e548ba86061ce2369b9a4deb9f00ad747bec7a36f8", func := "bellcrank/bellcranklaw17.MovesDo", spec := "movesDo", unfollowed := true, recurses := true, apart := false, narrowed := true }
def MovesDoUptoSaid : Prop := movesDoUptoRow.holds Try.pinned (OpenSpec.upto movesDoSpec)

/-- 'bellcranklaw17.MovesRefused', WHERE WHAT IT READS IS OF BULK AT MOST 1048576: true; the input reads as it did. -/
def movesRefusedUptoRow : OpenClaim := { program := "ytbnfhcdodejmhaa", sum := "b35678c7c10799cefbdd90e548ba86061ce2369b9a4deb9f00ad747bec7a36f8", func := "bellcrank/bellcranklaw17.MovesRefused", spec := "movesRefused", unfollowed := true, recurses := true, apart := false, narrowed := true }
def MovesRefusedUptoSaid : Prop := movesRefusedUptoRow.holds Try.pinned (OpenSpec.upto movesRefusedSpec)

/-- 'bellcranklaw17.MovesLeave', WHERE WHAT IT READS IS OF BULK AT MOST 1048576: true; the input reads as it did. -/
def movesLeaveUptoRow : OpenClaim := { program := "ytbnfhcdodejmhaa", sum := "b35678c7c10799cefbdd90e548ba86061ce2369b9a4deb9f00ad747bec7a36f8", func := "bellcrank/bellcranklaw17.MovesLeave", spec := "movesLeave", unfollowed := true, recurses := true, apart := false, narrowed := true }
def MovesLeaveUptoSaid : Prop := movesLeaveUptoRow.holds Try.pinned (OpenSpec.upto movesLeaveSpec)

/-- 'bellcranklaw17.MovesFew', WHERE WHAT IT READS IS OF BULK AT MOST 1048576: true; the input reads as it did. -/
def movesFewUptoRow : OpenClaim := { program := "ytbnfhcdodejmhaa", sum := "b35678c7c10799cefbdd90e548ba86061ce2369b9a4deb9f00ad747bec7a36f8", func := "bellcrank/bellcranklaw17.MovesFew", spec := "movesFew", unfollowed := true, recurses := true, apart := false, narrowed := true }
def MovesFewUptoSaid : Prop := movesFewUptoRow.holds Try.pinned (OpenSpec.upto movesFewSpec)

/-- 'bellcranklaw17.MovesAsk', WHERE WHAT IT READS IS OF BULK AT MOST 1048576: true; the input reads as it did. -/
def movesAskUptoRow : OpenClaim := { program := "ytbnfhcdodejmhaa", sum := "b35678c7c10799cefbdd90e548ba86061ce2369b9a4deb9f00ad747bec7a36f8", func := "bellcrank/bellcranklaw17.MovesAsk", spec := "movesAsk", unfollowed := true, recurses := true, apart := false, narrowed := true }
def MovesAskUptoSaid : Prop := movesAskUptoRow.holds Try.pinned (OpenSpec.upto movesAskSpec)

/-- 'bellcranklaw17.MovesOwn', WHERE WHAT IT READS IS OF BULK AT MOST 1048576: true; the input reads as it did. -/
def movesOwnUptoRow : OpenClaim := { program := "ytbnfhcdodejmhaa", sum := "b35678c7c10799cefbdd90e548ba86061ce2369b9a4deb9f00ad747bec7a36f8", func := "bellcrank/bellcranklaw17.MovesOwn", spec := "movesOwn", unfollowed := true, recurses := true, apart := false, narrowed := true }
def MovesOwnUptoSaid : Prop := movesOwnUptoRow.holds Try.pinned (OpenSpec.upto movesOwnSpec)

end Rows
end Go.Proofs.Ytbnfhcdodejmhaa
