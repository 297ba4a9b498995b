/-
  Rows of the call's own whose values lie in a block: one after the other may be written over.
  Conditions: none.
-/
import Derived.Test.YtkfnnmdghibjbaaBase
namespace Go.Bk
open Go Go.RowKit

theorem own_other {w : World} {p g k : Nat} {e : TypeId} {size n : Nat} {v u : Value} {xs : List Value} (h : w.ownsRow p e size v n xs) (hg : v.ownBlock ≠ some g) : (w.setCell ⟨g, k, none⟩ u).ownsRow p e size v n xs := by
  refine ⟨h.1, ?_⟩
  rcases h.2 with h2 | ⟨g', cap, cur, rfl, h2, hh, r⟩
  · exact .inl h2
  · refine .inr ⟨g', cap, cur, rfl, h2, ?_, r⟩
    have hne : g' ≠ g := fun e => hg (by simp [Value.ownBlock, e])
    rw [heap_setCell_other w ⟨g, k, none⟩ g' u hne]
    exact hh

theorem blk_other {w : World} {g G k : Nat} {e : TypeId} {cs : Array Value} {u : Value} (h : Blk w G e cs) (hg : G ≠ g) : Blk (w.setCell ⟨g, k, none⟩ u) G e cs := by
  unfold Blk
  rw [heap_setCell_other w ⟨g, k, none⟩ G u hg]
  exact h

/-- the values vs lie in block G; each is a row of the call's own, no two of them in one block, and what they hold is C -/
def OwnedRows (C : Value → Prop) (w : World) (p : Nat) (e t : TypeId) (G : Nat) (vs : List Value) : Prop :=
  Blk w G t vs.toArray ∧ ∀ (i : Nat) (v : Value), vs[i]? = some v → (∃ A n c xs, v = .slice A n c ∧ w.ownsRow p e 1 v n xs ∧ ∀ x ∈ xs, C x) ∧ v.ownBlock ≠ some G ∧ ∀ (j : Nat) (u : Value), vs[j]? = some u → j ≠ i → ∀ g, v.ownBlock = some g → u.ownBlock ≠ some g

theorem OwnedRows.cell {C : Value → Prop} {w : World} {p : Nat} {e t : TypeId} {G : Nat} {vs : List Value} (h : OwnedRows C w p e t G vs) {i : Nat} {v : Value} (hi : vs[i]? = some v) : w.cell? ⟨G, i, none⟩ = some v := by
  rw [h.1.cell i]
  simpa using hi

theorem OwnedRows.set {C : Value → Prop} {w : World} {p : Nat} {e t : TypeId} {G : Nat} {vs : List Value} (h : OwnedRows C w p e t G vs) {k g n c : Nat} (hk : vs[k]? = some (.slice (some ⟨g, 0, none⟩) n c)) (j : Nat) {x : Value} (hx : C x) :
    OwnedRows C (w.setCell ⟨g, j, none⟩ x) p e t G vs := by
  obtain ⟨hB, hA⟩ := h
  refine ⟨blk_other hB (fun e => (hA k _ hk).2.1 (by simp [Value.ownBlock, e])), fun i v hi => ?_⟩
  obtain ⟨⟨A, n', c', xs, rfl, ho, hC⟩, hG, hd⟩ := hA i v hi
  refine ⟨?_, hG, hd⟩
  by_cases hik : i = k
  · subst hik
    rw [hk] at hi
    injection hi with hi
    injection hi with e1 e2 e3
    subst e1
    subst e2
    subst e3
    exact ⟨_, _, _, _, rfl, (ho.stored j x).1, fun y hy => by
      rcases List.mem_or_eq_of_mem_set hy with h1 | h1
      · exact hC y h1
      · rw [h1]; exact hx⟩
  · exact ⟨_, _, _, _, rfl, own_other ho (fun e => hd k _ hk (fun e => hik e.symm) g e rfl), hC⟩
end Go.Bk
