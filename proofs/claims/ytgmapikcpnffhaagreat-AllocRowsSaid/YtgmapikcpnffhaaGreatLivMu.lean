/-
 LiveMutual: clashing goes both ways, and no place clashes with itself.
 Conditions: none.
-/
import Derived.Test.YtgmapikcpnffhaaGreatLivAl
namespace Go.Bk.Liv
open Go Go.RowKit Go.Bk
theorem Sall.range {e : EnvD} {r : RowD} (hc : CheckP e r) {a b : Int} (h : Sall r a b) : (0 ≤ a ∧ a < r.places) ∧ 0 ≤ b ∧ b < r.places := by
 rcases h with ⟨i, c, h1, h2, h3⟩ | ⟨h1, h2⟩
 ·have hp := codeOk_places (hc.code c (List.mem_of_getElem? h1))
  refine ⟨hp.2.1 a h2, ?_⟩
  rcases h3 with ⟨h3, _⟩ | h3
  ·exact h3.range hc
  ·exact hp.2.1 b h3
 ·refine ⟨within_mem hc.pin h1, ?_⟩
  rcases h2 with h2 | h2
  ·exact within_mem hc.pin h2
  ·exact h2.range hc
theorem Clashes.range {e : EnvD} {r : RowD} (hc : CheckP e r) {a b : Int} (h : Clashes r a b) : 0 ≤ b ∧ b < r.places := by
 rcases h.2 with h | h
 ·exact (Sall.range hc h).2
 ·exact (Sall.range hc h).1
theorem Clashes.symm {r : RowD} {a b : Int} (h : Clashes r a b) : Clashes r b a := ⟨fun e => h.1 e.symm, h.2.symm⟩
theorem IsSet.small {e : EnvD} {r : RowD} (hc : CheckP e r) {p : List Int} {Q : Int → Prop} (h : IsSet p Q) (hr : ∀ x, Q x → 0 ≤ x ∧ x < r.places) : p.length ≤ 4096 := by
 have h1 := hc.p1
 have h2 := hc.p2
 have := nodup_range_len (m := r.places.toNat) (h.1.imp (fun h => by omega)) (fun x hx => by have := hr x ((h.2 x).1 hx); omega)
 omega
theorem IsSet.lt {p : List Int} {Q : Int → Prop} (h : IsSet p Q) {j : Nat} {x y : Int} (hx : p[j]? = some x) (hy : p[j + 1]? = some y) : x < y := by
 obtain ⟨h1, e1⟩ := List.getElem?_eq_some_iff.1 hx
 obtain ⟨h2, e2⟩ := List.getElem?_eq_some_iff.1 hy
 have := List.pairwise_iff_getElem.1 h.1 j (j + 1) h1 h2 (by omega)
 rw [← e1, ← e2]
 exact this
end Go.Bk.Liv
namespace Go.Proofs.YtgmapikcpnffhaaGreat
open Go.RowKit Go.Bk Go.Bk.Liv
set_option linter.unusedVariables false
set_option linter.unusedSimpArgs false
theorem Told.lists {w : World} {base : Nat} {v : Value} {n : Nat} {Q : Nat → Int → Prop} (h : Told w base v n Q) : ∃ P, LL w v P ∧ P.length = n ∧ ∀ (i : Nat) p, P[i]? = some p → IsSet p (Q i) := by
 have h' := h
 obtain ⟨vs, P, h1, h2, h3, h4⟩ := h
 exact ⟨P, h'.ll h3 h4, h3, h4⟩
def LawPost (w : World) (en : Ending) (w' : World) : Prop := en = .returned (.bool true) ∧ Below w.heap.size w w'
end Go.Proofs.YtgmapikcpnffhaaGreat
