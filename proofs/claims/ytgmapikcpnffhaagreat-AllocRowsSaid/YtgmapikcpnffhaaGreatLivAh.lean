/-
 live.Ahead and live.Behind: what is live, told in lists of the call's own.
 Conditions: none.
-/
import Derived.Test.YtgmapikcpnffhaaGreatLivLk2
namespace Go.Proofs.YtgmapikcpnffhaaGreat
open Go.RowKit Go.Bk Go.Bk.Liv
set_option linter.unusedVariables false
set_option linter.unusedSimpArgs false

/-- lists of one's own: each holds, rising, just the numbers that Q tells of it -/
def Told (w : World) (base : Nat) (v : Value) (n : Nat) (Q : Nat → Int → Prop) : Prop := ∃ vs P, w.ownsRow base 23 1 v n vs ∧ RowsOf w base vs P ∧ P.length = n ∧ ∀ (i : Nat) p, P[i]? = some p → IsSet p (Q i)
def AhPost (e : EnvD) (r : RowD) (n : Nat) (Q : Nat → Int → Prop) (w : World) (en : Ending) (w' : World) : Prop :=
 (¬ CheckP e r ∧ en = .returned (.tuple #[.slice none 0 0, .int .i64 6]) ∧ Below w.heap.size w w') ∨
 (CheckP e r ∧ ∃ v, en = .returned (.tuple #[v, .int .i64 0]) ∧ Told w' w.heap.size v n Q ∧ Below w.heap.size w w')
theorem Looked.row {r : RowD} {w : World} {base gF gA gB : Nat} {bA bB : List Nat} {A B : Sets} (h : Looked r w base gF gA gB bA bB A B) {e : EnvD} (hc : CheckP e r) : (∀ s ∈ A, s.Nodup ∧ s.length ≤ 1000000) ∧ (∀ s ∈ B, s.Nodup ∧ s.length ≤ 1000000) ∧ A.length = r.code.length ∧ B.length = r.code.length ∧ r.code.length ≤ 1000000 := by
 have hs := h.s.small hc
 have hp := hc.p2
 have hn := hc.n2
 exact ⟨fun s q => ⟨h.s.nA s q, by have := hs.1 s q; omega⟩, fun s q => ⟨h.s.nB s q, by have := hs.2 s q; omega⟩, h.s.lA, h.s.lB, by omega⟩
/-- what lists tells of sets -/
theorem told_of {A : Sets} {w w' : World} {en : Ending} (h : LsPost A w en w') {Q : Nat → Int → Prop} (hQ : ∀ (i : Nat) s x, A[i]? = some s → (x ∈ s ↔ Q i x)) : ∃ v, en = .returned v ∧ Told w' w.heap.size v A.length Q ∧ Below w.heap.size w w' := by
 obtain ⟨v, vs, P, h1, h2, h3, h4, h5, h6⟩ := h
 refine ⟨v, h1, ⟨vs, P, h2, h3, h4, fun i p hp => ?_⟩, h6⟩
 have hi := (List.getElem?_eq_some_iff.1 hp).1
 have hs := List.getElem?_eq_getElem (show i < A.length by omega)
 have q := h5 i _ p hs hp
 exact ⟨q.1, fun x => (q.2 x).trans (hQ i _ x hs)⟩
theorem Told.mono {w : World} {a b : Nat} {v : Value} {n : Nat} {Q : Nat → Int → Prop} (h : Told w a v n Q) (hb : b ≤ a) : Told w b v n Q := by
 obtain ⟨vs, P, h1, h2, h3, h4⟩ := h
 exact ⟨vs, P, own_mono h1 hb, ⟨h2.1, fun i u p q1 q2 => own_mono (h2.2 i u p q1 q2) hb⟩, h3, h4⟩
theorem Told.below {w w' : World} {a : Nat} {v : Value} {n : Nat} {Q : Nat → Int → Prop} (h : Told w a v n Q) (hb : Below w.heap.size w w') : Told w' a v n Q := by
 obtain ⟨vs, P, h1, h2, h3, h4⟩ := h
 exact ⟨vs, P, own_below h1 hb (Nat.le_refl _), ⟨h2.1, fun i u p q1 q2 => own_below (h2.2 i u p q1 q2) hb (Nat.le_refl _)⟩, h3, h4⟩
end Go.Proofs.YtgmapikcpnffhaaGreat
