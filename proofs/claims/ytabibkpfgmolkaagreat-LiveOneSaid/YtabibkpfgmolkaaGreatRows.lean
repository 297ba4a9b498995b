/-
  No cell of these rows narrows 'for every input' (looked for: loops, veiled, ifaces, maps, wideKeys, modest, calm, conditions, laid).
  DERIVED. THE GIVEN ROWS OF THIS SEAT. 2 by the template 'for every input the law returns true; each argument reads behind the call as it read before'; 0 by the template 'total and deterministic' (their statements: YtabibkpfgmolkaaGreatTotals.lean).
  GIVEN WITH THE SEED: the statements are not yours to turn. If you find one false, say at which input.
  Laid BY PROGRAM, IN A SANDBOX (cutbox-rows.mjs): the forced cells as the released guide's own fill.sh prints them over the translation d71cbe9ce23f039a… (all of the seat's roots in one cut). By AI agents, Wed Nov 11 2026. No macro, syntax, notation, axiom, sorry.
-/
import Derived.Test.YtabibkpfgmolkaaGreatChecked
import GoSem.Claim
import GoSem.ClaimJoined
import GoSem.ClaimMapViews
import Derived.JoinedTies
import Derived.KernelRfl
namespace Go.Proofs.YtabibkpfgmolkaaGreat
/- THE CELL 'sum', in the pinned program and in every row, IS THE sha256 OF THE DUMP (.gsa) THAT YtabibkpfgmolkaaGreatProg.lean LOADS. Nothing in Lean hashes anything: it is a label: what it is worth is what the hold of that sum in a sandbox is worth. -/
noncomputable def Tryz.pinned : Pinned := { name := "ytabibkpfgmolkaagreat", sum := "d71cbe9ce23f039a1d2825e6b47686abacf76d7d7a7418955d80ab50bde44de6", checked := Tryz.checked }
namespace Rows
def none {H : Type} : Left H := { results := [], args := [] }

/-- 'bellcranklaw19.LiveOne': WHATEVER THE INPUT: true; the input reads as it did. -/
def liveOneSpec : ChangeSpec := { name := "liveOne", fn := fun _ => fun
  | [d1, d2, d3] => { results := [.lit (.bool true)], args := [d1, d2, d3] }
  | _ => none }
def liveOneRow : OpenClaim := { program := "ytabibkpfgmolkaagreat", sum := "d71cbe9ce23f039a1d2825e6b47686abacf76d7d7a7418955d80ab50bde44de6", func := "bellcrank/bellcranklaw19.LiveOne", spec := "liveOne", unfollowed := true, recurses := true, apart := false }
def LiveOneSaid : Prop := liveOneRow.holds Tryz.pinned (OpenSpec.ofChange liveOneSpec)

/-- ITS FALSE NEIGHBOUR: 'it returns false'. Refute it at one input. -/
def liveOneWrong : ChangeSpec := { name := "liveOne", fn := fun _ => fun
  | [d1, d2, d3] => { results := [.lit (.bool false)], args := [d1, d2, d3] }
  | _ => none }
def LiveOneWrongFalsely : Prop := liveOneRow.holds Tryz.pinned (OpenSpec.ofChange liveOneWrong)

/-- 'bellcranklaw20.AllocMeans': WHATEVER THE INPUT: true; the input reads as it did. -/
def allocMeansSpec : ChangeSpec := { name := "allocMeans", fn := fun _ => fun
  | [d1, d2] => { results := [.lit (.bool true)], args := [d1, d2] }
  | _ => none }
def allocMeansRow : OpenClaim := { program := "ytabibkpfgmolkaagreat", sum := "d71cbe9ce23f039a1d2825e6b47686abacf76d7d7a7418955d80ab50bde44de6", func := "bellcrank/bellcranklaw20.AllocMeans", spec := "allocMeans", unfollowed := true, recurses := true, apart := false }
def AllocMeansSaid : Prop := allocMeansRow.holds Tryz.pinned (OpenSpec.ofChange allocMeansSpec)

/-- ITS FALSE NEIGHBOUR: 'it returns false'. Refute it at one input. -/
def allocMeansWrong : ChangeSpec := { name := "allocMeans", fn := fun _ => fun
  | [d1, d2] => { results := [.lit (.bool false)], args := [d1, d2] }
  | _ => none }
def AllocMeansWrongFalsely : Prop := allocMeansRow.holds Tryz.pinned (OpenSpec.ofChange allocMeansWrong)

/- THE SECOND FORM. 'bulk': how many values and letters a reading holds, each counted each time it is reached (what is shared counts as often as it is met; a slice's spare places count too). A statement '..UptoSaid' is the law's where the arguments, and the package variables that the reading takes, are together of bulk at most 1048576: NARROWER than '..Said'. Prove '..Said' where nothing that the law and all that it calls make is longer than what came in: it says more and counts as full. Else prove '..UptoSaid'. A law counts once. -/
mutual
def uptoBulk {H : Type} : DataW H → Nat
  | .lit (.string bytes) => bytes.length + 1
  | .lit _ => 1
  | .nil => 1
  | .ptr d => uptoBulk d + 1
  | .slice elems spare => uptoBulkAll elems + uptoBulkAll spare + 1
  | .agg parts => uptoBulkAll parts + 1
  | .iface _ d => uptoBulk d + 1
  | .map entries => uptoBulkEntries entries + 1
  | .held _ => 1
def uptoBulkAll {H : Type} : List (DataW H) → Nat
  | [] => 0
  | d :: r => uptoBulk d + uptoBulkAll r
def uptoBulkEntries {H : Type} : List (Lit × DataW H) → Nat
  | [] => 0
  | x :: r => uptoBulkEntry x + uptoBulkEntries r
def uptoBulkEntry {H : Type} : Lit × DataW H → Nat
  | (.string bytes, d) => bytes.length + uptoBulk d + 1
  | (_, d) => uptoBulk d + 1
 end
def uptoSmall : (H : Type) → List (DataW H) → Bool := fun _ ds => decide (uptoBulkAll ds ≤ 1048576)
def OpenSpec.upto (s : _root_.Go.ChangeSpec) : _root_.Go.OpenSpec := { _root_.Go.OpenSpec.ofChange s with cond := some uptoSmall }

/-- 'bellcranklaw19.LiveOne', WHERE WHAT IT READS IS OF BULK AT MOST 1048576: true; the input reads as it did. -/
def liveOneUptoRow : OpenClaim := { program := "ytabibkpfgmolkaagreat", sum := "d71cbe9ce23f039a1d2825e6b47686abacf76d7d7a7418955d80ab50bde44de6", func := "bellcrank/bellcranklaw19.LiveOne", spec := "liveOne", unfollowed := true, recurses := true, apart := false, narrowed := true }
def LiveOneUptoSaid : Prop := liveOneUptoRow.holds Tryz.pinned (OpenSpec.upto liveOneSpec)

/-- 'bellcranklaw20.AllocMeans', WHERE WHAT IT READS IS OF BULK AT MOST 1048576: true; the input reads as it did. -/
def allocMeansUptoRow : OpenClaim := { program := "ytabibkpfgmolkaagreat", sum := "d71cbe9ce23f039a1d2825e6b47686abacf76d7d7a7418955d80ab50bde44de6", func := "bellcrank/bellcranklaw20.AllocMeans", spec := "allocMeans", unfollowed := true, recurses := true, apart := false, narrowed := true }
def AllocMeansUptoSaid : Prop := allocMeansUptoRow.holds Tryz.pinned (OpenSpec.upto allocMeansSpec)

end Rows
end Go.Proofs.YtabibkpfgmolkaaGreat
