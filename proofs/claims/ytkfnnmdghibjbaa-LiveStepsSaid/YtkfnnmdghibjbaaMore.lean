/-
  More words for memory: blocks that are known whole, in worlds that are spelled out.
  Conditions: none.
-/
import Derived.Test.YtkfnnmdghibjbaaBase
namespace Go.Bk
open Go Go.RowKit

theorem Blk.alloc {w : World} {g : Nat} {e : TypeId} {cs : Array Value} (h : Blk w g e cs) (o : Obj) : Blk (w.alloc o) g e cs := h.below ((Below.refl w.heap.size _).alloc (Nat.le_refl _) _) h.lt
theorem Blk.newAt (w : World) {N : Nat} (e : TypeId) (cs : Array Value) (h : w.heap.size = N) : Blk (w.alloc (.cells cs e)) N e cs := by
  subst h
  exact Blk.new w e cs
theorem Blk.drew {w : World} {g : Nat} {e : TypeId} {cs : Array Value} (h : Blk w g e cs) : Blk w.drew g e cs := h
theorem Blk.drewN {w : World} {g : Nat} {e : TypeId} {cs : Array Value} (h : Blk w g e cs) (n : Nat) : Blk (w.drewN n) g e cs := h
/-- a block that is known whole is a row of the call's own -/
theorem Blk.own {w : World} {g base n : Nat} {e : TypeId} {cs : Array Value} (h : Blk w g e cs) (hb : base ≤ g) (hn : cs.size = n) (hm : n ≤ maxLen) : w.ownsRow base e 1 (.slice (some ⟨g, 0, none⟩) n n) n cs.toList := by
  subst hn
  exact ⟨by simp, .inr ⟨g, cs.size, cs, rfl, hb, h, Nat.le_refl _, hm, by simp, by rw [Nat.mul_one]; exact List.take_of_length_le (by simp)⟩⟩
theorem Blk.srcAll {w : World} {g n : Nat} {e : TypeId} {cs : Array Value} (h : Blk w g e cs) (hn : cs.size = n) : Src w (some ⟨g, 0, none⟩) n cs.toList := by
  have := h.src n (by omega)
  rwa [List.take_of_length_le (by simp; omega)] at this
theorem own_drew {w : World} {base : Nat} {e : TypeId} {size n : Nat} {v : Value} {xs : List Value} (h : w.ownsRow base e size v n xs) : w.drew.ownsRow base e size v n xs := h
theorem own_alloc {w : World} {base : Nat} {e : TypeId} {size n : Nat} {v : Value} {xs : List Value} (h : w.ownsRow base e size v n xs) (o : Obj) : (w.alloc o).ownsRow base e size v n xs := own_below h ((Below.refl w.heap.size _).alloc (Nat.le_refl _) _) (Nat.le_refl _)
theorem Src.alloc {w : World} {A : Option Addr} {n : Nat} {xs : List Value} (h : Src w A n xs) (o : Obj) : Src (w.alloc o) A n xs := h.below ((Below.refl w.heap.size _).alloc (Nat.le_refl _) _) (Nat.le_refl _)
theorem Src.drew {w : World} {A : Option Addr} {n : Nat} {xs : List Value} (h : Src w A n xs) : Src w.drew A n xs := h
theorem Src.drewN {w : World} {A : Option Addr} {n : Nat} {xs : List Value} (h : Src w A n xs) (k : Nat) : Src (w.drewN k) A n xs := h
end Go.Bk
