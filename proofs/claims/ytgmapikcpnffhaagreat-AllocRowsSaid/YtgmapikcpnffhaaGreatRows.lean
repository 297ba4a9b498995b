/-
  No cell of these rows narrows 'for every input' (looked for: loops, veiled, ifaces, maps, wideKeys, modest, calm, conditions, laid).
  DERIVED. THE GIVEN ROWS OF THIS SEAT. 7 by the template 'for every input the law returns true; each argument reads behind the call as it read before'; 0 by the template 'total and deterministic' (their statements: YtgmapikcpnffhaaGreatTotals.lean).
  GIVEN WITH THE SEED: the statements are not yours to turn. If you find one false, say at which input.
  Laid BY PROGRAM, IN A SANDBOX (cutbox-rows.mjs): the forced cells as the released guide's own fill.sh prints them over the translation 0155f2f20cc35b1d… (all of the seat's roots in one cut). By AI agents, Wed Nov 11 2026. No macro, syntax, notation, axiom, sorry.
-/
import Derived.Test.YtgmapikcpnffhaaGreatChecked
import GoSem.Claim
import GoSem.ClaimJoined
import GoSem.ClaimMapViews
import Derived.JoinedTies
import Derived.KernelRfl
namespace Go.Proofs.YtgmapikcpnffhaaGreat
/- THE CELL 'sum', in the pinned program and in every row, IS THE sha256 OF THE DUMP (.gsa) THAT YtgmapikcpnffhaaGreatProg.lean LOADS. Nothing in Lean hashes anything: it is a label: what it is worth is what the hold of that sum in a sandbox is worth. -/
noncomputable def Tryz.pinned : Pinned := { name := "ytgmapikcpnffhaagreat", sum := "0155f2f20cc35b1dc631b3f65a074a21f0b409ef03f34094878fe7013d36e109", checked := Tryz.checked }
namespace Rows
def none {H : Type} : Left H := { results := [], args := [] }

/-- 'bellcranklaw20.AllocRight': WHATEVER THE INPUT: true; the input reads as it did. -/
def allocRightSpec : ChangeSpec := { name := "allocRight", fn := fun _ => fun
  | [d1, d2] => { results := [.lit (.bool true)], args := [d1, d2] }
  | _ => none }
def allocRightRow : OpenClaim := { program := "ytgmapikcpnffhaagreat", sum := "0155f2f20cc35b1dc631b3f65a074a21f0b409ef03f34094878fe7013d36e109", func := "bellcrank/bellcranklaw20.AllocRight", spec := "allocRight", unfollowed := true, recurses := true, apart := false }
def AllocRightSaid : Prop := allocRightRow.holds Tryz.pinned (OpenSpec.ofChange allocRightSpec)

/-- ITS FALSE NEIGHBOUR: 'it returns false'. Refute it at one input. -/
def allocRightWrong : ChangeSpec := { name := "allocRight", fn := fun _ => fun
  | [d1, d2] => { results := [.lit (.bool false)], args := [d1, d2] }
  | _ => none }
def AllocRightWrongFalsely : Prop := allocRightRow.holds Tryz.pinned (OpenSpec.ofChange allocRightWrong)

/-- 'bellcranklaw20.AllocTold': WHATEVER THE INPUT: true; the input reads as it did. -/
def allocToldSpec : ChangeSpec := { name := "allocTold", fn := fun _ => fun
  | [d1, d2] => { results := [.lit (.bool true)], args := [d1, d2] }
  | _ => none }
def allocToldRow : OpenClaim := { program := "ytgmapikcpnffhaagreat", sum := "0155f2f20cc35b1dc631b3f65a074a21f0b409ef03f34094878fe7013d36e109", func := "bellcrank/bellcranklaw20.AllocTold", spec := "allocTold", unfollowed := true, recurses := true, apart := false }
def AllocToldSaid : Prop := allocToldRow.holds Tryz.pinned (OpenSpec.ofChange allocToldSpec)

/-- ITS FALSE NEIGHBOUR: 'it returns false'. Refute it at one input. -/
def allocToldWrong : ChangeSpec := { name := "allocTold", fn := fun _ => fun
  | [d1, d2] => { results := [.lit (.bool false)], args := [d1, d2] }
  | _ => none }
def AllocToldWrongFalsely : Prop := allocToldRow.holds Tryz.pinned (OpenSpec.ofChange allocToldWrong)

/-- 'bellcranklaw20.AllocApart': WHATEVER THE INPUT: true; the input reads as it did. -/
def allocApartSpec : ChangeSpec := { name := "allocApart", fn := fun _ => fun
  | [d1, d2] => { results := [.lit (.bool true)], args := [d1, d2] }
  | _ => none }
def allocApartRow : OpenClaim := { program := "ytgmapikcpnffhaagreat", sum := "0155f2f20cc35b1dc631b3f65a074a21f0b409ef03f34094878fe7013d36e109", func := "bellcrank/bellcranklaw20.AllocApart", spec := "allocApart", unfollowed := true, recurses := true, apart := false }
def AllocApartSaid : Prop := allocApartRow.holds Tryz.pinned (OpenSpec.ofChange allocApartSpec)

/-- ITS FALSE NEIGHBOUR: 'it returns false'. Refute it at one input. -/
def allocApartWrong : ChangeSpec := { name := "allocApart", fn := fun _ => fun
  | [d1, d2] => { results := [.lit (.bool false)], args := [d1, d2] }
  | _ => none }
def AllocApartWrongFalsely : Prop := allocApartRow.holds Tryz.pinned (OpenSpec.ofChange allocApartWrong)

/-- 'bellcranklaw20.AllocFrames': WHATEVER THE INPUT: true; the input reads as it did. -/
def allocFramesSpec : ChangeSpec := { name := "allocFrames", fn := fun _ => fun
  | [d1, d2] => { results := [.lit (.bool true)], args := [d1, d2] }
  | _ => none }
def allocFramesRow : OpenClaim := { program := "ytgmapikcpnffhaagreat", sum := "0155f2f20cc35b1dc631b3f65a074a21f0b409ef03f34094878fe7013d36e109", func := "bellcrank/bellcranklaw20.AllocFrames", spec := "allocFrames", unfollowed := true, recurses := true, apart := false }
def AllocFramesSaid : Prop := allocFramesRow.holds Tryz.pinned (OpenSpec.ofChange allocFramesSpec)

/-- ITS FALSE NEIGHBOUR: 'it returns false'. Refute it at one input. -/
def allocFramesWrong : ChangeSpec := { name := "allocFrames", fn := fun _ => fun
  | [d1, d2] => { results := [.lit (.bool false)], args := [d1, d2] }
  | _ => none }
def AllocFramesWrongFalsely : Prop := allocFramesRow.holds Tryz.pinned (OpenSpec.ofChange allocFramesWrong)

/-- 'bellcranklaw20.AllocOwn': WHATEVER THE INPUT: true; the input reads as it did. -/
def allocOwnSpec : ChangeSpec := { name := "allocOwn", fn := fun _ => fun
  | [d1, d2] => { results := [.lit (.bool true)], args := [d1, d2] }
  | _ => none }
def allocOwnRow : OpenClaim := { program := "ytgmapikcpnffhaagreat", sum := "0155f2f20cc35b1dc631b3f65a074a21f0b409ef03f34094878fe7013d36e109", func := "bellcrank/bellcranklaw20.AllocOwn", spec := "allocOwn", unfollowed := true, recurses := true, apart := false }
def AllocOwnSaid : Prop := allocOwnRow.holds Tryz.pinned (OpenSpec.ofChange allocOwnSpec)

/-- ITS FALSE NEIGHBOUR: 'it returns false'. Refute it at one input. -/
def allocOwnWrong : ChangeSpec := { name := "allocOwn", fn := fun _ => fun
  | [d1, d2] => { results := [.lit (.bool false)], args := [d1, d2] }
  | _ => none }
def AllocOwnWrongFalsely : Prop := allocOwnRow.holds Tryz.pinned (OpenSpec.ofChange allocOwnWrong)

/-- 'bellcranklaw20.AllocRows': WHATEVER THE INPUT: true; the input reads as it did. -/
def allocRowsSpec : ChangeSpec := { name := "allocRows", fn := fun _ => fun
  | [d] => { results := [.lit (.bool true)], args := [d] }
  | _ => none }
def allocRowsRow : OpenClaim := { program := "ytgmapikcpnffhaagreat", sum := "0155f2f20cc35b1dc631b3f65a074a21f0b409ef03f34094878fe7013d36e109", func := "bellcrank/bellcranklaw20.AllocRows", spec := "allocRows", unfollowed := true, recurses := true, apart := false }
def AllocRowsSaid : Prop := allocRowsRow.holds Tryz.pinned (OpenSpec.ofChange allocRowsSpec)

/-- ITS FALSE NEIGHBOUR: 'it returns false'. Refute it at one input. -/
def allocRowsWrong : ChangeSpec := { name := "allocRows", fn := fun _ => fun
  | [d] => { results := [.lit (.bool false)], args := [d] }
  | _ => none }
def AllocRowsWrongFalsely : Prop := allocRowsRow.holds Tryz.pinned (OpenSpec.ofChange allocRowsWrong)

/-- 'bellcranklaw20.AllocMeans': WHATEVER THE INPUT: true; the input reads as it did. -/
def allocMeansSpec : ChangeSpec := { name := "allocMeans", fn := fun _ => fun
  | [d1, d2] => { results := [.lit (.bool true)], args := [d1, d2] }
  | _ => none }
def allocMeansRow : OpenClaim := { program := "ytgmapikcpnffhaagreat", sum := "0155f2f20cc35b1dc631b3f65a074a21f0b409ef03f34094878fe7013d36e109", func := "bellcrank/bellcranklaw20.AllocMeans", spec := "allocMeans", unfollowed := true, recurses := true, apart := false }
def AllocMeansSaid : Prop := allocMeansRow.holds Tryz.pinned (OpenSpec.ofChange allocMeansSpec)

/-- ITS FALSE NEIGHBOUR: 'it returns false'. Refute it at one input. -/
def allocMeansWrong : ChangeSpec := { name := "allocMeans", fn := fun _ => fun
  | [d1, d2] => { results := [.lit (.bool false)], args := [d1, d2] }
  | _ => none }
def AllocMeansWrongFalsely : Prop := allocMeansRow.holds Tryz.pinned (OpenSpec.ofChange allocMeansWrong)

/- THE SECOND FORM. 'bulk': how many values and letters a reading holds, each counted each time it is reached (what is shared counts as often as it is met; a slice's spare places count too). A statement '..UptoSaid' is the law's where the arguments, and the package variables that the reading takes, are together of bulk at most 1048576: NARROWER than '..Said'. Prove '..Said' where nothing that the law and all that it calls make is longer than what came in: it says more and counts as full. Else prove '..UptoSaid'. A law counts once. -/
mutual
def uptoBulk {H : Type} : DataW H → Nat
  | .lit (.string bytes) => bytes.length + 1
  | .lit _ => 1
  | .nil => 1
  | .ptr d => uptoBulk d + 1
  | .slice elems spare => uptoBulkAll elems + uptoBulkAll spare + 1
  | .agg parts => uptoBulkAll parts + 1
  | .iface _ d => uptoBulk d + 1
  | .map entries => uptoBulkEntries entries + 1
  | .held _ => 1
def uptoBulkAll {H : Type} : List (DataW H) → Nat
  | [] => 0
  | d :: r => uptoBulk d + uptoBulkAll r
def uptoBulkEntries {H : Type} : List (Lit × DataW H) → Nat
  | [] => 0
  | x :: r => uptoBulkEntry x + uptoBulkEntries r
def uptoBulkEntry {H : Type} : Lit × DataW H → Nat
  | (.string bytes, d) => bytes.length + uptoBulk d + 1
  | (_, d) => uptoBulk d + 1
 end
def uptoSmall : (H : Type) → List (DataW H) → Bool := fun _ ds => decide (uptoBulkAll ds ≤ 1048576)
def OpenSpec.upto (s : _root_.Go.ChangeSpec) : _root_.Go.OpenSpec := { _root_.Go.OpenSpec.ofChange s with cond := some uptoSmall }

/-- 'bellcranklaw20.AllocRight', WHERE WHAT IT READS IS OF BULK AT MOST 1048576: true; the input reads as it did. -/
def allocRightUptoRow : OpenClaim := { program := "ytgmapikcpnffhaagreat", sum := "0155f2f20cc35b1dc631b3f65a074a21f0b409ef03f34094878fe7013d36e109", func := "bellcrank/bellcranklaw20.AllocRight", spec := "allocRight", unfollowed := true, recurses := true, apart := false, narrowed := true }
def AllocRightUptoSaid : Prop := allocRightUptoRow.holds Tryz.pinned (OpenSpec.upto allocRightSpec)

/-- 'bellcranklaw20.AllocTold', WHERE WHAT IT READS IS OF BULK AT MOST 1048576: true; the input reads as it did. -/
def allocToldUptoRow : OpenClaim := { program := "ytgmapikcpnffhaagreat", sum := "0155f2f20cc35b1dc631b3f65a074a21f0b409ef03f34094878fe7013d36e109", func := "bellcrank/bellcranklaw20.AllocTold", spec := "allocTold", unfollowed := true, recurses := true, apart := false, narrowed := true }
def AllocToldUptoSaid : Prop := allocToldUptoRow.holds Tryz.pinned (OpenSpec.upto allocToldSpec)

/-- 'bellcranklaw20.AllocApart', WHERE WHAT IT READS IS OF BULK AT MOST 1048576: true; the input reads as it did. -/
def allocApartUptoRow : OpenClaim := { program := "ytgmapikcpnffhaagreat", sum := "0155f2f20cc35b1dc631b3f65a074a21f0b409ef03f34094878fe7013d36e109", func := "bellcrank/bellcranklaw20.AllocApart", spec := "allocApart", unfollowed := true, recurses := true, apart := false, narrowed := true }
def AllocApartUptoSaid : Prop := allocApartUptoRow.holds Tryz.pinned (OpenSpec.upto allocApartSpec)

/-- 'bellcranklaw20.AllocFrames', WHERE WHAT IT READS IS OF BULK AT MOST 1048576: true; the input reads as it did. -/
def allocFramesUptoRow : OpenClaim := { program := "ytgmapikcpnffhaagreat", sum := "0155f2f20cc35b1dc631b3f65a074a21f0b409ef03f34094878fe7013d36e109", func := "bellcrank/bellcranklaw20.AllocFrames", spec := "allocFrames", unfollowed := true, recurses := true, apart := false, narrowed := true }
def AllocFramesUptoSaid : Prop := allocFramesUptoRow.holds Tryz.pinned (OpenSpec.upto allocFramesSpec)

/-- 'bellcranklaw20.AllocOwn', WHERE WHAT IT READS IS OF BULK AT MOST 1048576: true; the input reads as it did. -/
def allocOwnUptoRow : OpenClaim := { program := "ytgmapikcpnffhaagreat", sum := "0155f2f20cc35b1dc631b3f65a074a21f0b409ef03f34094878fe7013d36e109", func := "bellcrank/bellcranklaw20.AllocOwn", spec := "allocOwn", unfollowed := true, recurses := true, apart := false, narrowed := true }
def AllocOwnUptoSaid : Prop := allocOwnUptoRow.holds Tryz.pinned (OpenSpec.upto allocOwnSpec)

/-- 'bellcranklaw20.AllocRows', WHERE WHAT IT READS IS OF BULK AT MOST 1048576: true; the input reads as it did. -/
def allocRowsUptoRow : OpenClaim := { program := "ytgmapikcpnffhaagreat", sum := "0155f2f20cc35b1dc631b3f65a074a21f0b409ef03f34094878fe7013d36e109", func := "bellcrank/bellcranklaw20.AllocRows", spec := "allocRows", unfollowed := true, recurses := true, apart := false, narrowed := true }
def AllocRowsUptoSaid : Prop := allocRowsUptoRow.holds Tryz.pinned (OpenSpec.upto allocRowsSpec)

/-- 'bellcranklaw20.AllocMeans', WHERE WHAT IT READS IS OF BULK AT MOST 1048576: true; the input reads as it did. -/
def allocMeansUptoRow : OpenClaim := { program := "ytgmapikcpnffhaagreat", sum := "0155f2f20cc35b1dc631b3f65a074a21f0b409ef03f34094878fe7013d36e109", func := "bellcrank/bellcranklaw20.AllocMeans", spec := "allocMeans", unfollowed := true, recurses := true, apart := false, narrowed := true }
def AllocMeansUptoSaid : Prop := allocMeansUptoRow.holds Tryz.pinned (OpenSpec.upto allocMeansSpec)

end Rows
end Go.Proofs.YtgmapikcpnffhaaGreat
