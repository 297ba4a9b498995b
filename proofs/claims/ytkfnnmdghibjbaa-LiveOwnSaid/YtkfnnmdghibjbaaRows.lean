/-
  No cell of these rows narrows 'for every input' (looked for: loops, veiled, ifaces, maps, wideKeys, modest, calm, conditions, laid).
  DERIVED. THE GIVEN ROWS OF THIS SEAT. 6 by the template 'for every input the law returns true; each argument reads behind the call as it read before'; 0 by the template 'total and deterministic' (their statements: YtkfnnmdghibjbaaTotals.lean).
  GIVEN WITH THE SEED: the statements are not yours to turn. If you find one false, say at which input.
  Laid BY PROGRAM, IN A SANDBOX (cutbox-rows.mjs): the forced cells as the released guide's own fill.sh prints them over the translation de006a22f7ff9741… (all of the seat's roots in one cut). By AI agents, Wed Nov 11 2026. No macro, syntax, notation, axiom, sorry.
-/
import Derived.Test.YtkfnnmdghibjbaaChecked
import GoSem.Claim
import GoSem.ClaimJoined
import GoSem.ClaimMapViews
import Derived.JoinedTies
import Derived.KernelRfl
namespace Go.Proofs.Ytkfnnmdghibjbaa
/- THE CELL 'sum', in the pinned program and in every row, IS THE sha256 OF THE DUMP (.gsa) THAT YtkfnnmdghibjbaaProg.lean LOADS. Nothing in Lean hashes anything: it is a label: what it is worth is what the hold of that sum in a sandbox is worth. -/
noncomputable def Try.pinned : Pinned := { name := "ytkfnnmdghibjbaa", sum := "de006a22f7ff9741d393b9bc4059b86143887e8307304527f76d2959bd95975d", checked := Try.checked }
namespace Rows
def none {H : Type} : Left H := { results := [], args := [] }

/-- 'bellcranklaw19.LiveAhead': WHATEVER THE INPUT: true; the input reads as it did. -/
def liveAheadSpec : ChangeSpec := { name := "liveAhead", fn := fun _ => fun
  | [d1, d2] => { results := [.lit (.bool true)], args := [d1, d2] }
  | _ => none }
def liveAheadRow : OpenClaim := { program := "ytkfnnmdghibjbaa", sum := "de006a22f7ff9741d393b9bc4059b86143887e8307304527f76d2959bd95975d", func := "bellcrank/bellcranklaw19.LiveAhead", spec := "liveAhead", unfollowed := true, recurses := true, apart := false }
def LiveAheadSaid : Prop := liveAheadRow.holds Try.pinned (OpenSpec.ofChange liveAheadSpec)

/-- ITS FALSE NEIGHBOUR: 'it returns false'. Refute it at one input. -/
def liveAheadWrong : ChangeSpec := { name := "liveAhead", fn := fun _ => fun
  | [d1, d2] => { results := [.lit (.bool false)], args := [d1, d2] }
  | _ => none }
def LiveAheadWrongFalsely : Prop := liveAheadRow.holds Try.pinned (OpenSpec.ofChange liveAheadWrong)

/-- 'bellcranklaw19.LiveClash': WHATEVER THE INPUT: true; the input reads as it did. -/
def liveClashSpec : ChangeSpec := { name := "liveClash", fn := fun _ => fun
  | [d1, d2] => { results := [.lit (.bool true)], args := [d1, d2] }
  | _ => none }
def liveClashRow : OpenClaim := { program := "ytkfnnmdghibjbaa", sum := "de006a22f7ff9741d393b9bc4059b86143887e8307304527f76d2959bd95975d", func := "bellcrank/bellcranklaw19.LiveClash", spec := "liveClash", unfollowed := true, recurses := true, apart := false }
def LiveClashSaid : Prop := liveClashRow.holds Try.pinned (OpenSpec.ofChange liveClashSpec)

/-- ITS FALSE NEIGHBOUR: 'it returns false'. Refute it at one input. -/
def liveClashWrong : ChangeSpec := { name := "liveClash", fn := fun _ => fun
  | [d1, d2] => { results := [.lit (.bool false)], args := [d1, d2] }
  | _ => none }
def LiveClashWrongFalsely : Prop := liveClashRow.holds Try.pinned (OpenSpec.ofChange liveClashWrong)

/-- 'bellcranklaw19.LiveSteps': WHATEVER THE INPUT: true; the input reads as it did. -/
def liveStepsSpec : ChangeSpec := { name := "liveSteps", fn := fun _ => fun
  | [d1, d2] => { results := [.lit (.bool true)], args := [d1, d2] }
  | _ => none }
def liveStepsRow : OpenClaim := { program := "ytkfnnmdghibjbaa", sum := "de006a22f7ff9741d393b9bc4059b86143887e8307304527f76d2959bd95975d", func := "bellcrank/bellcranklaw19.LiveSteps", spec := "liveSteps", unfollowed := true, recurses := true, apart := false }
def LiveStepsSaid : Prop := liveStepsRow.holds Try.pinned (OpenSpec.ofChange liveStepsSpec)

/-- ITS FALSE NEIGHBOUR: 'it returns false'. Refute it at one input. -/
def liveStepsWrong : ChangeSpec := { name := "liveSteps", fn := fun _ => fun
  | [d1, d2] => { results := [.lit (.bool false)], args := [d1, d2] }
  | _ => none }
def LiveStepsWrongFalsely : Prop := liveStepsRow.holds Try.pinned (OpenSpec.ofChange liveStepsWrong)

/-- 'bellcranklaw19.LiveMutual': WHATEVER THE INPUT: true; the input reads as it did. -/
def liveMutualSpec : ChangeSpec := { name := "liveMutual", fn := fun _ => fun
  | [d1, d2] => { results := [.lit (.bool true)], args := [d1, d2] }
  | _ => none }
def liveMutualRow : OpenClaim := { program := "ytkfnnmdghibjbaa", sum := "de006a22f7ff9741d393b9bc4059b86143887e8307304527f76d2959bd95975d", func := "bellcrank/bellcranklaw19.LiveMutual", spec := "liveMutual", unfollowed := true, recurses := true, apart := false }
def LiveMutualSaid : Prop := liveMutualRow.holds Try.pinned (OpenSpec.ofChange liveMutualSpec)

/-- ITS FALSE NEIGHBOUR: 'it returns false'. Refute it at one input. -/
def liveMutualWrong : ChangeSpec := { name := "liveMutual", fn := fun _ => fun
  | [d1, d2] => { results := [.lit (.bool false)], args := [d1, d2] }
  | _ => none }
def LiveMutualWrongFalsely : Prop := liveMutualRow.holds Try.pinned (OpenSpec.ofChange liveMutualWrong)

/-- 'bellcranklaw19.LiveOwn': WHATEVER THE INPUT: true; the input reads as it did. -/
def liveOwnSpec : ChangeSpec := { name := "liveOwn", fn := fun _ => fun
  | [d1, d2] => { results := [.lit (.bool true)], args := [d1, d2] }
  | _ => none }
def liveOwnRow : OpenClaim := { program := "ytkfnnmdghibjbaa", sum := "de006a22f7ff9741d393b9bc4059b86143887e8307304527f76d2959bd95975d", func := "bellcrank/bellcranklaw19.LiveOwn", spec := "liveOwn", unfollowed := true, recurses := true, apart := false }
def LiveOwnSaid : Prop := liveOwnRow.holds Try.pinned (OpenSpec.ofChange liveOwnSpec)

/-- ITS FALSE NEIGHBOUR: 'it returns false'. Refute it at one input. -/
def liveOwnWrong : ChangeSpec := { name := "liveOwn", fn := fun _ => fun
  | [d1, d2] => { results := [.lit (.bool false)], args := [d1, d2] }
  | _ => none }
def LiveOwnWrongFalsely : Prop := liveOwnRow.holds Try.pinned (OpenSpec.ofChange liveOwnWrong)

/-- 'bellcranklaw19.LiveAcross': WHATEVER THE INPUT: true; the input reads as it did. -/
def liveAcrossSpec : ChangeSpec := { name := "liveAcross", fn := fun _ => fun
  | [d1, d2] => { results := [.lit (.bool true)], args := [d1, d2] }
  | _ => none }
def liveAcrossRow : OpenClaim := { program := "ytkfnnmdghibjbaa", sum := "de006a22f7ff9741d393b9bc4059b86143887e8307304527f76d2959bd95975d", func := "bellcrank/bellcranklaw19.LiveAcross", spec := "liveAcross", unfollowed := true, recurses := true, apart := false }
def LiveAcrossSaid : Prop := liveAcrossRow.holds Try.pinned (OpenSpec.ofChange liveAcrossSpec)

/-- ITS FALSE NEIGHBOUR: 'it returns false'. Refute it at one input. -/
def liveAcrossWrong : ChangeSpec := { name := "liveAcross", fn := fun _ => fun
  | [d1, d2] => { results := [.lit (.bool false)], args := [d1, d2] }
  | _ => none }
def LiveAcrossWrongFalsely : Prop := liveAcrossRow.holds Try.pinned (OpenSpec.ofChange liveAcrossWrong)

/- THE SECOND FORM. 'bulk': how many values and letters a reading holds, each counted each time it is reached (what is shared counts as often as it is met; a slice's spare places count too). A statement '..UptoSaid' is the law's where the arguments, and the package variables that the reading takes, are together of bulk at most 1048576: NARROWER than '..Said'. Prove '..Said' where nothing that the law and all that it calls make is longer than what came in: it says more and counts as full. Else prove '..UptoSaid'. A law counts once. -/
mutual
def uptoBulk {H : Type} : DataW H → Nat
  | .lit (.string bytes) => bytes.length + 1
  | .lit _ => 1
  | .nil => 1
  | .ptr d => uptoBulk d + 1
  | .slice elems spare => uptoBulkAll elems + uptoBulkAll spare + 1
  | .agg parts => uptoBulkAll parts + 1
  | .iface _ d => uptoBulk d + 1
  | .map entries => uptoBulkEntries entries + 1
  | .held _ => 1
def uptoBulkAll {H : Type} : List (DataW H) → Nat
  | [] => 0
  | d :: r => uptoBulk d + uptoBulkAll r
def uptoBulkEntries {H : Type} : List (Lit × DataW H) → Nat
  | [] => 0
  | x :: r => uptoBulkEntry x + uptoBulkEntries r
def uptoBulkEntry {H : Type} : Lit × DataW H → Nat
  | (.string bytes, d) => bytes.length + uptoBulk d + 1
  | (_, d) => uptoBulk d + 1
 end
def uptoSmall : (H : Type) → List (DataW H) → Bool := fun _ ds => decide (uptoBulkAll ds ≤ 1048576)
def OpenSpec.upto (s : _root_.Go.ChangeSpec) : _root_.Go.OpenSpec := { _root_.Go.OpenSpec.ofChange s with cond := some uptoSmall }

/-- 'bellcranklaw19.LiveAhead', WHERE WHAT IT READS IS OF BULK AT MOST 1048576: true; the input reads as it did. -/
def liveAheadUptoRow : OpenClaim := { program := "ytkfnnmdghibjbaa", sum := "de006a22f7ff9741d393b9bc4059b86143887e8307304527f76d2959bd95975d", func := "bellcrank/bellcranklaw19.LiveAhead", spec := "liveAhead", unfollowed := true, recurses := true, apart := false, narrowed := true }
def LiveAheadUptoSaid : Prop := liveAheadUptoRow.holds Try.pinned (OpenSpec.upto liveAheadSpec)

/-- 'bellcranklaw19.LiveClash', WHERE WHAT IT READS IS OF BULK AT MOST 1048576: true; the input reads as it did. -/
def liveClashUptoRow : OpenClaim := { program := "ytkfnnmdghibjbaa", sum := "de006a22f7ff9741d393b9bc4059b86143887e8307304527f76d2959bd95975d", func := "bellcrank/bellcranklaw19.LiveClash", spec := "liveClash", unfollowed := true, recurses := true, apart := false, narrowed := true }
def LiveClashUptoSaid : Prop := liveClashUptoRow.holds Try.pinned (OpenSpec.upto liveClashSpec)

/-- 'bellcranklaw19.LiveSteps', WHERE WHAT IT READS IS OF BULK AT MOST 1048576: true; the input reads as it did. -/
def liveStepsUptoRow : OpenClaim := { program := "ytkfnnmdghibjbaa", sum := "de006a22f7ff9741d393b9bc4059b86143887e8307304527f76d2959bd95975d", func := "bellcrank/bellcranklaw19.LiveSteps", spec := "liveSteps", unfollowed := true, recurses := true, apart := false, narrowed := true }
def LiveStepsUptoSaid : Prop := liveStepsUptoRow.holds Try.pinned (OpenSpec.upto liveStepsSpec)

/-- 'bellcranklaw19.LiveMutual', WHERE WHAT IT READS IS OF BULK AT MOST 1048576: true; the input reads as it did. -/
def liveMutualUptoRow : OpenClaim := { program := "ytkfnnmdghibjbaa", sum := "de006a22f7ff9741d393b9bc4059b86143887e8307304527f76d2959bd95975d", func := "bellcrank/bellcranklaw19.LiveMutual", spec := "liveMutual", unfollowed := true, recurses := true, apart := false, narrowed := true }
def LiveMutualUptoSaid : Prop := liveMutualUptoRow.holds Try.pinned (OpenSpec.upto liveMutualSpec)

/-- 'bellcranklaw19.LiveOwn', WHERE WHAT IT READS IS OF BULK AT MOST 1048576: true; the input reads as it did. -/
def liveOwnUptoRow : OpenClaim := { program := "ytkfnnmdghibjbaa", sum := "de006a22f7ff9741d393b9bc4059b86143887e8307304527f76d2959bd95975d", func := "bellcrank/bellcranklaw19.LiveOwn", spec := "liveOwn", unfollowed := true, recurses := true, apart := false, narrowed := true }
def LiveOwnUptoSaid : Prop := liveOwnUptoRow.holds Try.pinned (OpenSpec.upto liveOwnSpec)

/-- 'bellcranklaw19.LiveAcross', WHERE WHAT IT READS IS OF BULK AT MOST 1048576: true; the input reads as it did. -/
def liveAcrossUptoRow : OpenClaim := { program := "ytkfnnmdghibjbaa", sum := "de006a22f7ff9741d393b9bc4059b86143887e8307304527f76d2959bd95975d", func := "bellcrank/bellcranklaw19.LiveAcross", spec := "liveAcross", unfollowed := true, recurses := true, apart := false, narrowed := true }
def LiveAcrossUptoSaid : Prop := liveAcrossUptoRow.holds Try.pinned (OpenSpec.upto liveAcrossSpec)

end Rows
end Go.Proofs.Ytkfnnmdghibjbaa
