/-
  LiveSteps: what is live ahead of an instruction is its Args, and what is live behind it but its Outs.
  Conditions: none.
-/
import Derived.Test.YtgmapikcpnffhaaGreatLivMu
namespace Go.Bk.Liv
open Go Go.RowKit Go.Bk
/-- live ahead: an Arg, or live behind and no Out -/
theorem live_iff {r : RowD} {i : Nat} {c : CodeD} (hc : r.code[i]? = some c) (x : Int) : Live r i x ↔ x ∈ c.args ∨ (LiveB r i x ∧ x ∉ c.outs) := by
  constructor
  · intro h
    obtain ⟨c', hc', h⟩ := h.cases'
    rw [hc] at hc'
    injection hc' with hc'
    subst hc'
    exact h
  · rintro (h | ⟨h, ho⟩)
    · exact .arg hc h
    · exact h.ahead hc ho
end Go.Bk.Liv
namespace Go.Proofs.YtgmapikcpnffhaaGreat
open Go.RowKit Go.Bk Go.Bk.Liv
set_option linter.unusedVariables false
set_option linter.unusedSimpArgs false
end Go.Proofs.YtgmapikcpnffhaaGreat
