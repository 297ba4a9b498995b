/-
 LiveSteps: what is live ahead of an instruction is its Args, and what is live behind it but its Outs.
 Conditions: none.
-/
import Derived.Test.YtgmapikcpnffhaaGreatLivMu
namespace Go.Bk.Liv
open Go Go.RowKit Go.Bk
end Go.Bk.Liv
namespace Go.Proofs.YtgmapikcpnffhaaGreat
open Go.RowKit Go.Bk Go.Bk.Liv
set_option linter.unusedVariables false
set_option linter.unusedSimpArgs false
end Go.Proofs.YtgmapikcpnffhaaGreat
