/-
  The library's Sort over a row of the call's own: what its world is.
  Conditions: none.
-/
import Derived.Test.YtkfnnmdghibjbaaApp
import Derived.Sort.Row
import Derived.Sort.Grow
namespace Go.Bk
open Go Go.RowKit Go.Sort

def i64s (l : List Int) : List Value := l.map (Value.int .i64)
theorem i64s_len (l : List Int) : (i64s l).length = l.length := by simp [i64s]
theorem i64s_app (a b : List Int) : i64s (a ++ b) = i64s a ++ i64s b := by simp [i64s]
theorem i64s_at {l : List Int} {k : Nat} (h : k < l.length) : (i64s l)[k]'(by simpa [i64s] using h) = .int .i64 l[k] := by simp [i64s]
theorem i64s_take (l : List Int) (n : Nat) : (i64s l).take n = i64s (l.take n) := by simp [i64s, List.map_take]
theorem i64s_one (l : List Int) : ∀ u ∈ i64s l, u.oneCell' = true := by
  intro u hu
  obtain ⟨_, _, rfl⟩ := List.mem_map.1 hu
  rfl

theorem Src.setCell {w : World} {A : Option Addr} {n : Nat} {xs : List Value} (h : Src w A n xs) {p : Addr} (v : Value) (hp : ∀ a, A = some a → a.block ≠ p.block) : Src (w.setCell p v) A n xs := by
  refine ⟨h.1, fun hn => ?_⟩
  obtain ⟨b, o, e, hlt, hc⟩ := h.2 hn
  refine ⟨b, o, e, by simpa using hlt, fun j u hu => ?_⟩
  rw [← hc j u hu]
  have := heap_setCell_other w p b v (hp _ e)
  unfold World.cell?
  rw [this]
theorem own_holds {w : World} {base g c : Nat} {e : TypeId} {zs : List Int} (h : w.ownsRow base e 1 (.slice (some ⟨g, 0, none⟩) zs.length c) zs.length (i64s zs)) : Holds (Value.int .i64) w g 0 zs.toArray := by
  intro j hj
  have hj' : j < zs.length := by simpa using hj
  refine ⟨?_, ?_⟩
  · have := (Src.of_own h).at_ hj'
    rw [i64s_at hj'] at this
    rw [this, getElem!_pos _ j hj]
    simp
  · rcases h.2 with ⟨h1, _⟩ | ⟨g', cap, cur, h1, _, hg, _⟩
    · cases h1
    · injection h1 with h1 h2 h3
      injection h1 with h1
      injection h1 with h1
      subst h1
      exact frozen_of_row w g (0 + j) _ _ hg

/-- what a sort leaves of a row of the call's own -/
theorem own_put {w : World} {base g c : Nat} {e : TypeId} {zs ys : List Int} (hl : ys.length = zs.length) (h : w.ownsRow base e 1 (.slice (some ⟨g, 0, none⟩) zs.length c) zs.length (i64s zs)) (n : Nat) (os : Array Obj) :
    (grow (putRow (Value.int .i64) (Sort.ahead w n) g 0 ys.toArray) os).ownsRow base e 1 (.slice (some ⟨g, 0, none⟩) ys.length c) ys.length (i64s ys) ∧ w.grownBy (grow (putRow (Value.int .i64) (Sort.ahead w n) g 0 ys.toArray) os) (some g) := by
  rcases h.2 with ⟨h1, _⟩ | ⟨g', cap, cur, h1, hb, hg, hn, hm, hcs, htk⟩
  · cases h1
  injection h1 with h1 h2 h3
  injection h1 with h1
  injection h1 with h1
  subst h1
  subst h3
  have hgl : g < w.heap.size := (Array.getElem?_eq_some_iff.1 hg).1
  constructor
  · refine ⟨by simp [i64s], .inr ⟨g, c, putCells (Value.int .i64) 0 ys.toArray cur, rfl, hb, ?_, by omega, hm, by simp [putCells]; omega, ?_⟩⟩
    · rw [heap_grow_old _ _ (by simpa using hgl)]
      simp only [putRow, mapBlock, heap_ahead, Array.getElem?_modify, if_true, hg, Option.map_some, onCells]
    · apply List.ext_getElem?
      intro j
      rw [List.getElem?_take]
      by_cases hj : j < ys.length * 1
      · rw [if_pos hj]
        have hj' : j < ys.length := by omega
        have hjc : j < cur.size := by omega
        simp only [putCells, Array.getElem?_toList, Array.getElem?_mapIdx]
        rw [Array.getElem?_eq_getElem hjc]
        simp only [Option.map_some]
        rw [if_pos ⟨by omega, by simpa using hj'⟩]
        have e1 : (ys.toArray[j - 0]!) = ys[j] := by rw [getElem!_pos _ (j - 0) (by simpa using hj')]; simp
        rw [e1]
        simp [i64s, List.getElem?_map, List.getElem?_eq_getElem hj']
      · rw [if_neg hj]
        symm
        rw [List.getElem?_eq_none]
        simp [i64s]
        omega
  · refine ⟨rfl, rfl, rfl, by simp, fun k hk hne => ?_⟩
    rw [heap_grow_old _ _ (by simpa using hk)]
    simp only [putRow, mapBlock, heap_ahead, Array.getElem?_modify]
    rw [if_neg (fun e => hne (by rw [e]))]

theorem sorted_len (zs : List Int) : (zs.mergeSort fun x y => decide (x ≤ y)).length = zs.length := List.length_mergeSort zs
def sortI (zs : List Int) : List Int := zs.mergeSort fun x y => decide (x ≤ y)
theorem sortI_mem (zs : List Int) (x : Int) : x ∈ sortI zs ↔ x ∈ zs := List.mem_mergeSort
theorem sortI_len (zs : List Int) : (sortI zs).length = zs.length := List.length_mergeSort zs
theorem sortI_rising (zs : List Int) : (sortI zs).Pairwise (· ≤ ·) := by
  have := List.pairwise_mergeSort (le := fun x y : Int => decide (x ≤ y)) (fun a b c h1 h2 => by simp at *; omega) (fun a b => by simp; omega) zs
  simpa [sortI] using this
theorem own_take {w : World} {base : Nat} {e : TypeId} {size n c k : Nat} {A : Option Addr} {xs : List Value} (h : w.ownsRow base e size (.slice A n c) n xs) (hk : k ≤ n) (hA : A ≠ none) : w.ownsRow base e size (.slice A k c) k (xs.take (k * size)) := by
  rcases h.2 with ⟨h1, _⟩ | ⟨g, cap, cur, h1, hb, hg, hn, hm, hcs, htk⟩
  · injection h1 with h1
    exact absurd h1 hA
  · injection h1 with h1 h2 h3
    subst h1
    subst h3
    refine ⟨?_, .inr ⟨g, c, cur, rfl, hb, hg, by omega, hm, hcs, ?_⟩⟩
    · rw [List.length_take, h.1]
      exact Nat.min_eq_left (Nat.mul_le_mul_right _ hk)
    · rw [← htk, List.take_take, Nat.min_eq_left (Nat.mul_le_mul_right _ hk)]
end Go.Bk
