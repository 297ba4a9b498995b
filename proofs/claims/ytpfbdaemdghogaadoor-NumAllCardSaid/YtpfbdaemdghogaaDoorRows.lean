/-
  NARROWER THAN 'FOR EVERY INPUT', by the rows' own cells (each row's printed sentence says how): NumEvals: laid · NumAll: laid · NumRest: laid · NumTurns: laid · NumFits: laid · NumCommutes: laid · NumSigs: laid.
  DERIVED. THE GIVEN ROWS OF THIS SEAT. 7 by the template 'for every input the law returns true; each argument reads behind the call as it read before'; 0 by the template 'total and deterministic' (their statements: YtpfbdaemdghogaaDoorTotals.lean).
  GIVEN WITH THE SEED: the statements are not yours to turn. If you find one false, say at which input.
  Laid BY PROGRAM, IN A SANDBOX (cutbox-rows.mjs): the forced cells as the released guide's own fill.sh prints them over the translation 2a92d48804b58296… (all of the seat's roots in one cut). By AI agents, Wed Nov 11 2026. No macro, syntax, notation, axiom, sorry.
-/
import Derived.Test.YtpfbdaemdghogaaDoorChecked
import GoSem.Claim
import GoSem.ClaimJoined
import GoSem.ClaimMapViews
import Derived.JoinedTies
import Derived.KernelRfl
namespace Go.Proofs.YtpfbdaemdghogaaDoor
/- THE CELL 'sum', in the pinned program and in every row, IS THE sha256 OF THE DUMP (.gsa) THAT YtpfbdaemdghogaaDoorProg.lean LOADS. Nothing in Lean hashes anything: it is a label: what it is worth is what the hold of that sum in a sandbox is worth. -/
noncomputable def Tryd.pinned : Pinned := { name := "ytpfbdaemdghogaadoor", sum := "2a92d48804b58296836bd94a1096e6c52c3749183afbbc9257fd0a4cd62c6d6f", checked := Tryd.checked }
namespace Rows
def none {H : Type} : Left H := { results := [], args := [] }

/- WHAT THE LISTED PACKAGE-LEVEL VARIABLES READ AS WHEN THE CALL BEGINS. Each datum BY PROGRAM (the guide's laid-datum.mjs) off the statement by which the dump's own 'gosem.cut.vars' lays the variable. In a bare row this is a premise. The card (YtpfbdaemdghogaaDoorCards.lean) ties it to the program's text. -/
def laid_math_bits_deBruijn32tab {H : Type} : DataW H := .agg [.lit (.int .u8 0), .lit (.int .u8 1), .lit (.int .u8 28), .lit (.int .u8 2), .lit (.int .u8 29), .lit (.int .u8 14), .lit (.int .u8 24), .lit (.int .u8 3), .lit (.int .u8 30), .lit (.int .u8 22), .lit (.int .u8 20), .lit (.int .u8 15), .lit (.int .u8 25), .lit (.int .u8 17), .lit (.int .u8 4), .lit (.int .u8 8), .lit (.int .u8 31), .lit (.int .u8 27), .lit (.int .u8 13), .lit (.int .u8 23), .lit (.int .u8 21), .lit (.int .u8 19), .lit (.int .u8 16), .lit (.int .u8 7), .lit (.int .u8 26), .lit (.int .u8 12), .lit (.int .u8 18), .lit (.int .u8 6), .lit (.int .u8 11), .lit (.int .u8 5), .lit (.int .u8 10), .lit (.int .u8 9)]
def laid_math_bits_deBruijn64tab {H : Type} : DataW H := .agg [.lit (.int .u8 0), .lit (.int .u8 1), .lit (.int .u8 56), .lit (.int .u8 2), .lit (.int .u8 57), .lit (.int .u8 49), .lit (.int .u8 28), .lit (.int .u8 3), .lit (.int .u8 61), .lit (.int .u8 58), .lit (.int .u8 42), .lit (.int .u8 50), .lit (.int .u8 38), .lit (.int .u8 29), .lit (.int .u8 17), .lit (.int .u8 4), .lit (.int .u8 62), .lit (.int .u8 47), .lit (.int .u8 59), .lit (.int .u8 36), .lit (.int .u8 45), .lit (.int .u8 43), .lit (.int .u8 51), .lit (.int .u8 22), .lit (.int .u8 53), .lit (.int .u8 39), .lit (.int .u8 33), .lit (.int .u8 30), .lit (.int .u8 24), .lit (.int .u8 18), .lit (.int .u8 12), .lit (.int .u8 5), .lit (.int .u8 63), .lit (.int .u8 55), .lit (.int .u8 48), .lit (.int .u8 27), .lit (.int .u8 60), .lit (.int .u8 41), .lit (.int .u8 37), .lit (.int .u8 16), .lit (.int .u8 46), .lit (.int .u8 35), .lit (.int .u8 44), .lit (.int .u8 21), .lit (.int .u8 52), .lit (.int .u8 32), .lit (.int .u8 23), .lit (.int .u8 11), .lit (.int .u8 54), .lit (.int .u8 26), .lit (.int .u8 40), .lit (.int .u8 15), .lit (.int .u8 34), .lit (.int .u8 20), .lit (.int .u8 31), .lit (.int .u8 10), .lit (.int .u8 25), .lit (.int .u8 14), .lit (.int .u8 19), .lit (.int .u8 9), .lit (.int .u8 13), .lit (.int .u8 8), .lit (.int .u8 7), .lit (.int .u8 6)]

/-- 'bellcranklaw02.NumEvals': WHATEVER THE INPUT: true; the input reads as it did. -/
def numEvalsSpec : ChangeSpec := { name := "numEvals", fn := fun _ => fun
  | [d1, d2] => { results := [.lit (.bool true)], args := [d1, d2] }
  | _ => none }
def numEvalsRow : OpenClaim := { program := "ytpfbdaemdghogaadoor", sum := "2a92d48804b58296836bd94a1096e6c52c3749183afbbc9257fd0a4cd62c6d6f", func := "bellcrank/bellcranklaw02.NumEvals", spec := "numEvals", unfollowed := true, recurses := true, named := ["math/bits.deBruijn64tab", "math/bits.deBruijn32tab"], apart := false, laid := [("math/bits.deBruijn32tab", laid_math_bits_deBruijn32tab), ("math/bits.deBruijn64tab", laid_math_bits_deBruijn64tab)] }
def NumEvalsSaid : Prop := numEvalsRow.holds Tryd.pinned (OpenSpec.ofChange numEvalsSpec)

/-- ITS FALSE NEIGHBOUR: 'it returns false'. Refute it at one input. -/
def numEvalsWrong : ChangeSpec := { name := "numEvals", fn := fun _ => fun
  | [d1, d2] => { results := [.lit (.bool false)], args := [d1, d2] }
  | _ => none }
def NumEvalsWrongFalsely : Prop := numEvalsRow.holds Tryd.pinned (OpenSpec.ofChange numEvalsWrong)

/-- 'bellcranklaw02.NumAll': WHATEVER THE INPUT: true; the input reads as it did. -/
def numAllSpec : ChangeSpec := { name := "numAll", fn := fun _ => fun
  | [d1, d2] => { results := [.lit (.bool true)], args := [d1, d2] }
  | _ => none }
def numAllRow : OpenClaim := { program := "ytpfbdaemdghogaadoor", sum := "2a92d48804b58296836bd94a1096e6c52c3749183afbbc9257fd0a4cd62c6d6f", func := "bellcrank/bellcranklaw02.NumAll", spec := "numAll", unfollowed := true, recurses := true, named := ["math/bits.deBruijn64tab", "math/bits.deBruijn32tab"], apart := false, laid := [("math/bits.deBruijn32tab", laid_math_bits_deBruijn32tab), ("math/bits.deBruijn64tab", laid_math_bits_deBruijn64tab)] }
def NumAllSaid : Prop := numAllRow.holds Tryd.pinned (OpenSpec.ofChange numAllSpec)

/-- ITS FALSE NEIGHBOUR: 'it returns false'. Refute it at one input. -/
def numAllWrong : ChangeSpec := { name := "numAll", fn := fun _ => fun
  | [d1, d2] => { results := [.lit (.bool false)], args := [d1, d2] }
  | _ => none }
def NumAllWrongFalsely : Prop := numAllRow.holds Tryd.pinned (OpenSpec.ofChange numAllWrong)

/-- 'bellcranklaw02.NumRest': WHATEVER THE INPUT: true; the input reads as it did. -/
def numRestSpec : ChangeSpec := { name := "numRest", fn := fun _ => fun
  | [d1, d2] => { results := [.lit (.bool true)], args := [d1, d2] }
  | _ => none }
def numRestRow : OpenClaim := { program := "ytpfbdaemdghogaadoor", sum := "2a92d48804b58296836bd94a1096e6c52c3749183afbbc9257fd0a4cd62c6d6f", func := "bellcrank/bellcranklaw02.NumRest", spec := "numRest", unfollowed := true, recurses := true, named := ["math/bits.deBruijn64tab", "math/bits.deBruijn32tab"], apart := false, laid := [("math/bits.deBruijn32tab", laid_math_bits_deBruijn32tab), ("math/bits.deBruijn64tab", laid_math_bits_deBruijn64tab)] }
def NumRestSaid : Prop := numRestRow.holds Tryd.pinned (OpenSpec.ofChange numRestSpec)

/-- ITS FALSE NEIGHBOUR: 'it returns false'. Refute it at one input. -/
def numRestWrong : ChangeSpec := { name := "numRest", fn := fun _ => fun
  | [d1, d2] => { results := [.lit (.bool false)], args := [d1, d2] }
  | _ => none }
def NumRestWrongFalsely : Prop := numRestRow.holds Tryd.pinned (OpenSpec.ofChange numRestWrong)

/-- 'bellcranklaw02.NumTurns': WHATEVER THE INPUT: true; the input reads as it did. -/
def numTurnsSpec : ChangeSpec := { name := "numTurns", fn := fun _ => fun
  | [d1, d2] => { results := [.lit (.bool true)], args := [d1, d2] }
  | _ => none }
def numTurnsRow : OpenClaim := { program := "ytpfbdaemdghogaadoor", sum := "2a92d48804b58296836bd94a1096e6c52c3749183afbbc9257fd0a4cd62c6d6f", func := "bellcrank/bellcranklaw02.NumTurns", spec := "numTurns", unfollowed := true, recurses := true, named := ["math/bits.deBruijn64tab", "math/bits.deBruijn32tab"], apart := false, laid := [("math/bits.deBruijn32tab", laid_math_bits_deBruijn32tab), ("math/bits.deBruijn64tab", laid_math_bits_deBruijn64tab)] }
def NumTurnsSaid : Prop := numTurnsRow.holds Tryd.pinned (OpenSpec.ofChange numTurnsSpec)

/-- ITS FALSE NEIGHBOUR: 'it returns false'. Refute it at one input. -/
def numTurnsWrong : ChangeSpec := { name := "numTurns", fn := fun _ => fun
  | [d1, d2] => { results := [.lit (.bool false)], args := [d1, d2] }
  | _ => none }
def NumTurnsWrongFalsely : Prop := numTurnsRow.holds Tryd.pinned (OpenSpec.ofChange numTurnsWrong)

/-- 'bellcranklaw02.NumFits': WHATEVER THE INPUT: true; the input reads as it did. -/
def numFitsSpec : ChangeSpec := { name := "numFits", fn := fun _ => fun
  | [d1, d2] => { results := [.lit (.bool true)], args := [d1, d2] }
  | _ => none }
def numFitsRow : OpenClaim := { program := "ytpfbdaemdghogaadoor", sum := "2a92d48804b58296836bd94a1096e6c52c3749183afbbc9257fd0a4cd62c6d6f", func := "bellcrank/bellcranklaw02.NumFits", spec := "numFits", unfollowed := true, recurses := true, named := ["math/bits.deBruijn64tab", "math/bits.deBruijn32tab"], apart := false, laid := [("math/bits.deBruijn32tab", laid_math_bits_deBruijn32tab), ("math/bits.deBruijn64tab", laid_math_bits_deBruijn64tab)] }
def NumFitsSaid : Prop := numFitsRow.holds Tryd.pinned (OpenSpec.ofChange numFitsSpec)

/-- ITS FALSE NEIGHBOUR: 'it returns false'. Refute it at one input. -/
def numFitsWrong : ChangeSpec := { name := "numFits", fn := fun _ => fun
  | [d1, d2] => { results := [.lit (.bool false)], args := [d1, d2] }
  | _ => none }
def NumFitsWrongFalsely : Prop := numFitsRow.holds Tryd.pinned (OpenSpec.ofChange numFitsWrong)

/-- 'bellcranklaw02.NumCommutes': WHATEVER THE INPUT: true; the input reads as it did. -/
def numCommutesSpec : ChangeSpec := { name := "numCommutes", fn := fun _ => fun
  | [d1, d2, d3] => { results := [.lit (.bool true)], args := [d1, d2, d3] }
  | _ => none }
def numCommutesRow : OpenClaim := { program := "ytpfbdaemdghogaadoor", sum := "2a92d48804b58296836bd94a1096e6c52c3749183afbbc9257fd0a4cd62c6d6f", func := "bellcrank/bellcranklaw02.NumCommutes", spec := "numCommutes", unfollowed := true, recurses := true, named := ["math/bits.deBruijn64tab", "math/bits.deBruijn32tab"], apart := false, laid := [("math/bits.deBruijn32tab", laid_math_bits_deBruijn32tab), ("math/bits.deBruijn64tab", laid_math_bits_deBruijn64tab)] }
def NumCommutesSaid : Prop := numCommutesRow.holds Tryd.pinned (OpenSpec.ofChange numCommutesSpec)

/-- ITS FALSE NEIGHBOUR: 'it returns false'. Refute it at one input. -/
def numCommutesWrong : ChangeSpec := { name := "numCommutes", fn := fun _ => fun
  | [d1, d2, d3] => { results := [.lit (.bool false)], args := [d1, d2, d3] }
  | _ => none }
def NumCommutesWrongFalsely : Prop := numCommutesRow.holds Tryd.pinned (OpenSpec.ofChange numCommutesWrong)

/-- 'bellcranklaw02.NumSigs': WHATEVER THE INPUT: true; the input reads as it did. -/
def numSigsSpec : ChangeSpec := { name := "numSigs", fn := fun _ => fun
  | [d] => { results := [.lit (.bool true)], args := [d] }
  | _ => none }
def numSigsRow : OpenClaim := { program := "ytpfbdaemdghogaadoor", sum := "2a92d48804b58296836bd94a1096e6c52c3749183afbbc9257fd0a4cd62c6d6f", func := "bellcrank/bellcranklaw02.NumSigs", spec := "numSigs", unfollowed := true, recurses := true, named := ["math/bits.deBruijn64tab", "math/bits.deBruijn32tab"], apart := false, laid := [("math/bits.deBruijn32tab", laid_math_bits_deBruijn32tab), ("math/bits.deBruijn64tab", laid_math_bits_deBruijn64tab)] }
def NumSigsSaid : Prop := numSigsRow.holds Tryd.pinned (OpenSpec.ofChange numSigsSpec)

/-- ITS FALSE NEIGHBOUR: 'it returns false'. Refute it at one input. -/
def numSigsWrong : ChangeSpec := { name := "numSigs", fn := fun _ => fun
  | [d] => { results := [.lit (.bool false)], args := [d] }
  | _ => none }
def NumSigsWrongFalsely : Prop := numSigsRow.holds Tryd.pinned (OpenSpec.ofChange numSigsWrong)

/- THE SECOND FORM. 'bulk': how many values and letters a reading holds, each counted each time it is reached (what is shared counts as often as it is met; a slice's spare places count too). A statement '..UptoSaid' is the law's where the arguments, and the package variables that the reading takes, are together of bulk at most 1048576: NARROWER than '..Said'. Prove '..Said' where nothing that the law and all that it calls make is longer than what came in: it says more and counts as full. Else prove '..UptoSaid'. A law counts once. -/
mutual
def uptoBulk {H : Type} : DataW H → Nat
  | .lit (.string bytes) => bytes.length + 1
  | .lit _ => 1
  | .nil => 1
  | .ptr d => uptoBulk d + 1
  | .slice elems spare => uptoBulkAll elems + uptoBulkAll spare + 1
  | .agg parts => uptoBulkAll parts + 1
  | .iface _ d => uptoBulk d + 1
  | .map entries => uptoBulkEntries entries + 1
  | .held _ => 1
def uptoBulkAll {H : Type} : List (DataW H) → Nat
  | [] => 0
  | d :: r => uptoBulk d + uptoBulkAll r
def uptoBulkEntries {H : Type} : List (Lit × DataW H) → Nat
  | [] => 0
  | x :: r => uptoBulkEntry x + uptoBulkEntries r
def uptoBulkEntry {H : Type} : Lit × DataW H → Nat
  | (.string bytes, d) => bytes.length + uptoBulk d + 1
  | (_, d) => uptoBulk d + 1
 end
def uptoSmall : (H : Type) → List (DataW H) → Bool := fun _ ds => decide (uptoBulkAll ds ≤ 1048576)
def OpenSpec.upto (s : _root_.Go.ChangeSpec) : _root_.Go.OpenSpec := { _root_.Go.OpenSpec.ofChange s with cond := some uptoSmall }

/-- 'bellcranklaw02.NumEvals', WHERE WHAT IT READS IS OF BULK AT MOST 1048576: true; the input reads as it did. -/
def numEvalsUptoRow : OpenClaim := { program := "ytpfbdaemdghogaadoor", sum := "2a92d48804b58296836bd94a1096e6c52c3749183afbbc9257fd0a4cd62c6d6f", func := "bellcrank/bellcranklaw02.NumEvals", spec := "numEvals", unfollowed := true, recurses := true, named := ["math/bits.deBruijn64tab", "math/bits.deBruijn32tab"], apart := false, laid := [("math/bits.deBruijn32tab", laid_math_bits_deBruijn32tab), ("math/bits.deBruijn64tab", laid_math_bits_deBruijn64tab)], narrowed := true }
def NumEvalsUptoSaid : Prop := numEvalsUptoRow.holds Tryd.pinned (OpenSpec.upto numEvalsSpec)

/-- 'bellcranklaw02.NumAll', WHERE WHAT IT READS IS OF BULK AT MOST 1048576: true; the input reads as it did. -/
def numAllUptoRow : OpenClaim := { program := "ytpfbdaemdghogaadoor", sum := "2a92d48804b58296836bd94a1096e6c52c3749183afbbc9257fd0a4cd62c6d6f", func := "bellcrank/bellcranklaw02.NumAll", spec := "numAll", unfollowed := true, recurses := true, named := ["math/bits.deBruijn64tab", "math/bits.deBruijn32tab"], apart := false, laid := [("math/bits.deBruijn32tab", laid_math_bits_deBruijn32tab), ("math/bits.deBruijn64tab", laid_math_bits_deBruijn64tab)], narrowed := true }
def NumAllUptoSaid : Prop := numAllUptoRow.holds Tryd.pinned (OpenSpec.upto numAllSpec)

/-- 'bellcranklaw02.NumRest', WHERE WHAT IT READS IS OF BULK AT MOST 1048576: true; the input reads as it did. -/
def numRestUptoRow : OpenClaim := { program := "ytpfbdaemdghogaadoor", sum := "2a92d48804b58296836bd94a1096e6c52c3749183afbbc9257fd0a4cd62c6d6f", func := "bellcrank/bellcranklaw02.NumRest", spec := "numRest", unfollowed := true, recurses := true, named := ["math/bits.deBruijn64tab", "math/bits.deBruijn32tab"], apart := false, laid := [("math/bits.deBruijn32tab", laid_math_bits_deBruijn32tab), ("math/bits.deBruijn64tab", laid_math_bits_deBruijn64tab)], narrowed := true }
def NumRestUptoSaid : Prop := numRestUptoRow.holds Tryd.pinned (OpenSpec.upto numRestSpec)

/-- 'bellcranklaw02.NumTurns', WHERE WHAT IT READS IS OF BULK AT MOST 1048576: true; the input reads as it did. -/
def numTurnsUptoRow : OpenClaim := { program := "ytpfbdaemdghogaadoor", sum := "2a92d48804b58296836bd94a1096e6c52c3749183afbbc9257fd0a4cd62c6d6f", func := "bellcrank/bellcranklaw02.NumTurns", spec := "numTurns", unfollowed := true, recurses := true, named := ["math/bits.deBruijn64tab", "math/bits.deBruijn32tab"], apart := false, laid := [("math/bits.deBruijn32tab", laid_math_bits_deBruijn32tab), ("math/bits.deBruijn64tab", laid_math_bits_deBruijn64tab)], narrowed := true }
def NumTurnsUptoSaid : Prop := numTurnsUptoRow.holds Tryd.pinned (OpenSpec.upto numTurnsSpec)

/-- 'bellcranklaw02.NumFits', WHERE WHAT IT READS IS OF BULK AT MOST 1048576: true; the input reads as it did. -/
def numFitsUptoRow : OpenClaim := { program := "ytpfbdaemdghogaadoor", sum := "2a92d48804b58296836bd94a1096e6c52c3749183afbbc9257fd0a4cd62c6d6f", func := "bellcrank/bellcranklaw02.NumFits", spec := "numFits", unfollowed := true, recurses := true, named := ["math/bits.deBruijn64tab", "math/bits.deBruijn32tab"], apart := false, laid := [("math/bits.deBruijn32tab", laid_math_bits_deBruijn32tab), ("math/bits.deBruijn64tab", laid_math_bits_deBruijn64tab)], narrowed := true }
def NumFitsUptoSaid : Prop := numFitsUptoRow.holds Tryd.pinned (OpenSpec.upto numFitsSpec)

/-- 'bellcranklaw02.NumCommutes', WHERE WHAT IT READS IS OF BULK AT MOST 1048576: true; the input reads as it did. -/
def numCommutesUptoRow : OpenClaim := { program := "ytpfbdaemdghogaadoor", sum := "2a92d48804b58296836bd94a1096e6c52c3749183afbbc9257fd0a4cd62c6d6f", func := "bellcrank/bellcranklaw02.NumCommutes", spec := "numCommutes", unfollowed := true, recurses := true, named := ["math/bits.deBruijn64tab", "math/bits.deBruijn32tab"], apart := false, laid := [("math/bits.deBruijn32tab", laid_math_bits_deBruijn32tab), ("math/bits.deBruijn64tab", laid_math_bits_deBruijn64tab)], narrowed := true }
def NumCommutesUptoSaid : Prop := numCommutesUptoRow.holds Tryd.pinned (OpenSpec.upto numCommutesSpec)

/-- 'bellcranklaw02.NumSigs', WHERE WHAT IT READS IS OF BULK AT MOST 1048576: true; the input reads as it did. -/
def numSigsUptoRow : OpenClaim := { program := "ytpfbdaemdghogaadoor", sum := "2a92d48804b58296836bd94a1096e6c52c3749183afbbc9257fd0a4cd62c6d6f", func := "bellcrank/bellcranklaw02.NumSigs", spec := "numSigs", unfollowed := true, recurses := true, named := ["math/bits.deBruijn64tab", "math/bits.deBruijn32tab"], apart := false, laid := [("math/bits.deBruijn32tab", laid_math_bits_deBruijn32tab), ("math/bits.deBruijn64tab", laid_math_bits_deBruijn64tab)], narrowed := true }
def NumSigsUptoSaid : Prop := numSigsUptoRow.holds Tryd.pinned (OpenSpec.upto numSigsSpec)

end Rows
end Go.Proofs.YtpfbdaemdghogaaDoor
