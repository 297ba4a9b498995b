/-
 The library's stable sort: just what it leaves.
 Conditions: none.
-/
import Derived.BigRegion
import Derived.Deep.QuietTactic
import Derived.BigQuiet
import Derived.Deep.DeepCutAuto
import Derived.Test.YtgmapikcpnffhaaGreatLGen
import Derived.Test.YtgmapikcpnffhaaGreatProg
import Derived.Test.YtgmapikcpnffhaaGreatShelf
namespace Go.Bk
open Go Go.RowKit
/-- a world that differs in one block alone -/
structure Only (g : Nat) (w w' : World) : Prop where
 size : w'.heap.size = w.heap.size
 block : ∀ k, k ≠ g → w'.heap[k]? = w.heap[k]?
 below : ∀ N w0, N ≤ g → Below N w0 w → Below N w0 w'
theorem Only.refl (g : Nat) (w : World) : Only g w w := ⟨rfl, fun _ _ => rfl, fun _ _ _ h => h⟩
theorem Only.trans {g : Nat} {a b c : World} (h : Only g a b) (k : Only g b c) : Only g a c := ⟨k.size.trans h.size, fun j hj => (k.block j hj).trans (h.block j hj), fun N w0 hN hb => k.below N w0 hN (h.below N w0 hN hb)⟩
theorem Only.setCell {g : Nat} {a w : World} (h : Only g a w) (i : Nat) (u : Value) : Only g a (w.setCell ⟨g, i, none⟩ u) :=
 ⟨by rw [← h.size]; simp, fun k hk => (heap_setCell_other w ⟨g, i, none⟩ k u hk).trans (h.block k hk), fun N w0 hN hb => (h.below N w0 hN hb).setCell (p := ⟨g, i, none⟩) hN u⟩
theorem Only.drewN {g : Nat} {a w : World} (h : Only g a w) (n : Nat) : Only g a (w.drewN n) := ⟨h.size, h.block, fun N w0 hN hb => below_drewN (h.below N w0 hN hb) n⟩
theorem Only.blk {g k : Nat} {w w' : World} {t : TypeId} {cs : Array Value} (h : Only g w w') (hb : Blk w k t cs) (hk : k ≠ g) : Blk w' k t cs := (h.block k hk).trans hb
theorem perm_swap {D : List Int} {i j : Nat} {a b : Int} (hi : D[i]? = some a) (hj : D[j]? = some b) : ((D.set i b).set j a).Perm D := by
 obtain ⟨h1, e1⟩ := List.getElem?_eq_some_iff.1 hi
 obtain ⟨h2, e2⟩ := List.getElem?_eq_some_iff.1 hj
 have h := Array.swap_perm (xs := D.toArray) (i := i) (j := j) (by simpa using h1) (by simpa using h2)
 have h' := h.toList
 simp only [Array.toList_swap] at h'
 subst e1
 subst e2
 simpa using h'
/-- a row of numbers that holds the numbers it held, in some order; nothing else was written -/
def SP (t : TypeId) (w0 : World) (g : Nat) (D0 : List Int) (wr : World) : Prop := ∃ D, D.Perm D0 ∧ Blk wr g t (i64s D).toArray ∧ Only g w0 wr
theorem SP.drewN {t : TypeId} {w0 wr : World} {g : Nat} {D0 : List Int} (h : SP t w0 g D0 wr) (n : Nat) : SP t w0 g D0 (wr.drewN n) := by
 obtain ⟨D, h1, h2, h3⟩ := h
 exact ⟨D, h1, h2, h3.drewN n⟩
theorem SP.drew {t : TypeId} {w0 wr : World} {g : Nat} {D0 : List Int} (h : SP t w0 g D0 wr) : SP t w0 g D0 wr.drew := h.drewN 1
theorem SP.start {t : TypeId} {w : World} {g : Nat} {D : List Int} (h : Blk w g t (i64s D).toArray) : SP t w g D w := ⟨D, .refl _, h, Only.refl _ _⟩
theorem SP.next {t : TypeId} {w0 wr w' : World} {g : Nat} {D0 D1 : List Int} (h : SP t wr g D1 w') (ho : Only g w0 wr) (hp : D1.Perm D0) : SP t w0 g D0 w' := by
 obtain ⟨D, h1, h2, h3⟩ := h
 exact ⟨D, h1.trans hp, h2, ho.trans h3⟩
theorem i64s_set (D : List Int) (i : Nat) (x : Int) : (i64s D).toArray.setIfInBounds i (.int .i64 x) = (i64s (D.set i x)).toArray := by simp [i64s, List.map_set]
theorem blk_put {t : TypeId} {w : World} {g : Nat} {D : List Int} (h : Blk w g t (i64s D).toArray) (i : Nat) (x : Int) : Blk (w.setCell ⟨g, i, none⟩ (.int .i64 x)) g t (i64s (D.set i x)).toArray := by
 have := heap_setCell_same w g i _ t (.int .i64 x) h
 unfold Blk
 rw [this, i64s_set]
theorem SP.swap {t : TypeId} {w0 wr : World} {g i j : Nat} {D0 D : List Int} {a b : Int} (hp : D.Perm D0) (h : Blk wr g t (i64s D).toArray) (ho : Only g w0 wr) (hi : D[i]? = some a) (hj : D[j]? = some b) :
  SP t w0 g D0 ((wr.setCell ⟨g, i, none⟩ (.int .i64 b)).setCell ⟨g, j, none⟩ (.int .i64 a)) :=
 ⟨_, (perm_swap hi hj).trans hp, blk_put (blk_put h i b) j a, (ho.setCell _ _).setCell _ _⟩
theorem blk_num {t : TypeId} {w : World} {g i : Nat} {D : List Int} {a : Int} (h : Blk w g t (i64s D).toArray) (hi : D[i]? = some a) : w.cell? ⟨g, i, none⟩ = some (.int .i64 a) := by
 rw [h.cell i]
 simp [i64s, hi]
theorem blk_some {t : TypeId} {w : World} {g i : Nat} {D : List Int} (h : Blk w g t (i64s D).toArray) (hi : i < D.length) : ∃ u, w.cell? ⟨g, i, none⟩ = some u :=
 ⟨_, blk_num h (List.getElem?_eq_getElem hi)⟩
theorem SP.len {D D0 : List Int} (h : D.Perm D0) {P : Nat} (hP : D0.length = P) {i : Nat} (hi : i < P) : ∃ a, D[i]? = some a ∧ a ∈ D0 := by
 have hl := h.length_eq
 have := List.getElem?_eq_getElem (l := D) (i := i) (by omega)
 exact ⟨_, this, h.mem_iff.1 (List.mem_of_getElem? this)⟩
end Go.Bk
namespace Go.Proofs.YtgmapikcpnffhaaGreat
open Go.RowKit Go.Bk
set_option linter.unusedVariables false
set_option linter.unusedSimpArgs false
end Go.Proofs.YtgmapikcpnffhaaGreat
namespace Go.Bk
open Go
/-- two places changed with one another -/
def swp (D : List Int) (i j : Nat) : List Int := (D.set i (D.getD j 0)).set j (D.getD i 0)
theorem swp_eq {D : List Int} {i j : Nat} {a b : Int} (hi : D[i]? = some a) (hj : D[j]? = some b) : (D.set i b).set j a = swp D i j := by
 unfold swp
 rw [List.getD_eq_getElem?_getD, List.getD_eq_getElem?_getD, hi, hj]
 rfl
theorem swp_eq2 {D : List Int} {i j : Nat} {a b : Int} (hi : D[i]? = some a) (hj : D[j]? = some b) : (D.set j a).set i b = swp D i j := by
 rw [← swp_eq hi hj]
 by_cases e : i = j
 ·subst e
  rw [hi] at hj
  injection hj with hj
  subst hj
  rfl
 ·rw [List.set_comm _ _ e]
/-- ranges changed with one another, from k on -/
def swR (a b : Nat) : Nat → Nat → List Int → List Int
 | 0, _, D => D
 | r + 1, k, D => swR a b r (k + 1) (swp D (a + k) (b + k))
theorem swR_step {a b n k : Nat} {D T : List Int} (hk : k < n) (h : swR a b (n - k) k D = T) : swR a b (n - (k + 1)) (k + 1) (swp D (a + k) (b + k)) = T := by
 rw [show n - k = (n - (k + 1)) + 1 by omega] at h
 exact h
theorem swR_end {a b n k : Nat} {D T : List Int} (hk : ¬ k < n) (h : swR a b (n - k) k D = T) : D = T := by
 rw [show n - k = 0 by omega] at h
 exact h
/-- a rotation -/
def rotF (m : Nat) : Nat → Nat → Nat → List Int → List Int
 | 0, _, _, D => D
 | f + 1, i, j, D => if i = j then swR (m - i) m i 0 D else if j < i then rotF m f (i - j) j (swR (m - i) m j 0 D) else rotF m f i (j - i) (swR (m - i) (m + j - i) i 0 D)
def rotD (a m b : Nat) (D : List Int) : List Int := rotF m (m - a + (b - m)) (m - a) (b - m) D
def RotI (m i j : Nat) (D T : List Int) : Prop := ∃ f, i + j ≤ f ∧ rotF m f i j D = T
theorem RotI.start (a m b : Nat) (D : List Int) : RotI m (m - a) (b - m) D (rotD a m b D) := ⟨_, Nat.le_refl _, rfl⟩
theorem RotI.eq {m i : Nat} {D T : List Int} (h : RotI m i i D T) (hi : 0 < i) : swR (m - i) m i 0 D = T := by
 obtain ⟨f, hf, h⟩ := h
 obtain ⟨f, rfl⟩ : ∃ q, f = q + 1 := ⟨f - 1, by omega⟩
 rw [rotF, if_pos rfl] at h
 exact h
theorem RotI.gt {m i j : Nat} {D T : List Int} (h : RotI m i j D T) (hj : 0 < j) (hij : j < i) : RotI m (i - j) j (swR (m - i) m j 0 D) T := by
 obtain ⟨f, hf, h⟩ := h
 obtain ⟨f, rfl⟩ : ∃ q, f = q + 1 := ⟨f - 1, by omega⟩
 rw [rotF, if_neg (by omega), if_pos hij] at h
 exact ⟨f, by omega, h⟩
theorem RotI.lt {m i j : Nat} {D T : List Int} (h : RotI m i j D T) (hi : 0 < i) (hij : i < j) : RotI m i (j - i) (swR (m - i) (m + j - i) i 0 D) T := by
 obtain ⟨f, hf, h⟩ := h
 obtain ⟨f, rfl⟩ : ∃ q, f = q + 1 := ⟨f - 1, by omega⟩
 rw [rotF, if_neg (by omega), if_neg (by omega)] at h
 exact ⟨f, by omega, h⟩
/-- one number of an insertion sort moves down -/
def insI (K : Int → Int → Int) (a : Nat) : Nat → List Int → List Int
 | 0, D => D
 | q + 1, D => if a < q + 1 ∧ K (D.getD (q + 1) 0) (D.getD q 0) < 0 then insI K a q (swp D (q + 1) q) else D
def insO (K : Int → Int → Int) (a : Nat) : Nat → Nat → List Int → List Int
 | 0, _, D => D
 | r + 1, k, D => insO K a r (k + 1) (insI K a k D)
def insD (K : Int → Int → Int) (a b : Nat) (D : List Int) : List Int := insO K a (b - (a + 1)) (a + 1) D
theorem insO_step {K : Int → Int → Int} {a b k : Nat} {D T : List Int} (hk : k < b) (h : insO K a (b - k) k D = T) : insO K a (b - (k + 1)) (k + 1) (insI K a k D) = T := by
 rw [show b - k = (b - (k + 1)) + 1 by omega] at h
 exact h
theorem insO_end {K : Int → Int → Int} {a b k : Nat} {D T : List Int} (hk : ¬ k < b) (h : insO K a (b - k) k D = T) : D = T := by
 rw [show b - k = 0 by omega] at h
 exact h
theorem insI_swap {K : Int → Int → Int} {a q : Nat} {D : List Int} {x y : Int} (hq : a < q + 1) (hx : D[q + 1]? = some x) (hy : D[q]? = some y) (hv : K x y < 0) : insI K a (q + 1) D = insI K a q (swp D (q + 1) q) := by
 rw [insI, if_pos ⟨hq, by rw [List.getD_eq_getElem?_getD, List.getD_eq_getElem?_getD, hx, hy]; exact hv⟩]
theorem insI_stay {K : Int → Int → Int} {a q : Nat} {D : List Int} {x y : Int} (hx : D[q + 1]? = some x) (hy : D[q]? = some y) (hv : ¬ K x y < 0) : insI K a (q + 1) D = D := by
 rw [insI, if_neg (fun h => hv (by rw [List.getD_eq_getElem?_getD, List.getD_eq_getElem?_getD, hx, hy] at h; exact h.2))]
theorem insI_end {K : Int → Int → Int} {a q : Nat} {D : List Int} (hq : ¬ a < q) : insI K a q D = D := by
 cases q with
 | zero => rfl
 | succ q => rw [insI, if_neg (fun h => hq h.1)]
/-- a search by halves -/
def bsF (t : Nat → Bool) : Nat → Nat → Nat → Nat
 | 0, i, _ => i
 | f + 1, i, j => if i < j then (if t ((i + j) / 2) = true then bsF t f ((i + j) / 2 + 1) j else bsF t f i ((i + j) / 2)) else i
def bsV (t : Nat → Bool) (i j : Nat) : Nat := bsF t (j - i) i j
def BSI (t : Nat → Bool) (I i j : Nat) : Prop := ∃ f, j - i ≤ f ∧ bsF t f i j = I
theorem BSI.start (t : Nat → Bool) (i j : Nat) : BSI t (bsV t i j) i j := ⟨_, Nat.le_refl _, rfl⟩
theorem BSI.up {t : Nat → Bool} {I i j h : Nat} (q : BSI t I i j) (hh : (i + j) / 2 = h) (hlt : i < j) (ht : t h = true) : BSI t I (h + 1) j := by
 obtain ⟨f, hf, e⟩ := q
 obtain ⟨f, rfl⟩ : ∃ q, f = q + 1 := ⟨f - 1, by omega⟩
 subst hh
 rw [bsF, if_pos hlt, if_pos ht] at e
 exact ⟨f, by omega, e⟩
theorem BSI.dn {t : Nat → Bool} {I i j h : Nat} (q : BSI t I i j) (hh : (i + j) / 2 = h) (hlt : i < j) (ht : t h = false) : BSI t I i h := by
 obtain ⟨f, hf, e⟩ := q
 obtain ⟨f, rfl⟩ : ∃ q, f = q + 1 := ⟨f - 1, by omega⟩
 subst hh
 rw [bsF, if_pos hlt, if_neg (by rw [ht]; decide)] at e
 exact ⟨f, by omega, e⟩
theorem BSI.done {t : Nat → Bool} {I i : Nat} (q : BSI t I i i) : i = I := by
 obtain ⟨f, _, e⟩ := q
 cases f with
 | zero => exact e
 | succ f => rw [bsF, if_neg (Nat.lt_irrefl i)] at e; exact e
/-- does the number at one place go ahead of that at another? -/
def isLt (K : Int → Int → Int) (D : List Int) (i j : Nat) : Bool := decide (K (D.getD i 0) (D.getD j 0) < 0)
theorem isLt_eq {K : Int → Int → Int} {D : List Int} {i j : Nat} {x y : Int} (hx : D[i]? = some x) (hy : D[j]? = some y) : isLt K D i j = decide (K x y < 0) := by
 unfold isLt
 rw [List.getD_eq_getElem?_getD, List.getD_eq_getElem?_getD, hx, hy]
 rfl
def upS : Nat → Nat → List Int → List Int
 | 0, _, D => D
 | r + 1, k, D => upS r (k + 1) (swp D k (k + 1))
theorem upS_step {n k : Nat} {D T : List Int} (hk : k < n) (h : upS (n - k) k D = T) : upS (n - (k + 1)) (k + 1) (swp D k (k + 1)) = T := by
 rw [show n - k = (n - (k + 1)) + 1 by omega] at h
 exact h
theorem upS_end {n k : Nat} {D T : List Int} (hk : ¬ k < n) (h : upS (n - k) k D = T) : D = T := by
 rw [show n - k = 0 by omega] at h
 exact h
def dnS (i : Nat) : Nat → List Int → List Int
 | 0, D => D
 | k + 1, D => if i < k + 1 then dnS i k (swp D (k + 1) k) else D
theorem dnS_step {i k : Nat} {D T : List Int} (hk : i < k) (h : dnS i k D = T) : dnS i (k - 1) (swp D k (k - 1)) = T := by
 obtain ⟨k, rfl⟩ : ∃ q, k = q + 1 := ⟨k - 1, by omega⟩
 rw [dnS, if_pos hk] at h
 exact h
theorem dnS_end {i k : Nat} {D T : List Int} (hk : ¬ i < k) (h : dnS i k D = T) : D = T := by
 cases k with
 | zero => exact h
 | succ k => rw [dnS, if_neg hk] at h; exact h
/-- where the merge's search begins and ends -/
def symS (K : Int → Int → Int) (a m b : Nat) (D : List Int) : Nat :=
 if (a + b) / 2 < m then bsV (fun c => !isLt K D ((a + b) / 2 + m - 1 - c) c) ((a + b) / 2 + m - b) ((a + b) / 2) else bsV (fun c => !isLt K D ((a + b) / 2 + m - 1 - c) c) a m
/-- a merge within a row -/
def symF (K : Int → Int → Int) : Nat → Nat → Nat → Nat → List Int → List Int
 | 0, _, _, _, D => D
 | f + 1, a, m, b, D =>
  if m - a = 1 then upS (bsV (fun h => isLt K D h a) m b - 1 - a) a D
  else if b - m = 1 then dnS (bsV (fun h => !isLt K D m h) a m) m D
  else
   let s := symS K a m b D
   let e := (a + b) / 2 + m - s
   let D1 := if s < m ∧ m < e then rotD s m e D else D
   let D2 := if a < s ∧ s < (a + b) / 2 then symF K f a s ((a + b) / 2) D1 else D1
   if (a + b) / 2 < e ∧ e < b then symF K f ((a + b) / 2) e b D2 else D2
/-- the merge's three parts, one behind the other -/
def sym3 (K : Int → Int → Int) (f mid e b : Nat) (D : List Int) : List Int := if mid < e ∧ e < b then symF K f mid e b D else D
def sym2 (K : Int → Int → Int) (f a s mid e b : Nat) (D : List Int) : List Int := sym3 K f mid e b (if a < s ∧ s < mid then symF K f a s mid D else D)
def sym1 (K : Int → Int → Int) (f a m s mid e b : Nat) (D : List Int) : List Int := sym2 K f a s mid e b (if s < m ∧ m < e then rotD s m e D else D)
theorem symF_one {K : Int → Int → Int} {f a m b : Nat} {D : List Int} (h : m - a = 1) : symF K (f + 1) a m b D = upS (bsV (fun h => isLt K D h a) m b - 1 - a) a D := by
 rw [symF, if_pos h]
theorem symF_two {K : Int → Int → Int} {f a m b : Nat} {D : List Int} (h : ¬ m - a = 1) (h2 : b - m = 1) : symF K (f + 1) a m b D = dnS (bsV (fun h => !isLt K D m h) a m) m D := by
 rw [symF, if_neg h, if_pos h2]
theorem symF_gen {K : Int → Int → Int} {f a m b s mid e : Nat} {D : List Int} (h : ¬ m - a = 1) (h2 : ¬ b - m = 1) (hs : symS K a m b D = s) (hm : (a + b) / 2 = mid) (he : mid + m - s = e) : symF K (f + 1) a m b D = sym1 K f a m s mid e b D := by
 rw [symF, if_neg h, if_neg h2]
 subst hs
 subst hm
 subst he
 rfl
/-- the blocks, sorted -/
def stB (K : Int → Int → Int) (P : Nat) : Nat → Nat → List Int → List Int
 | 0, a, D => insD K a P D
 | f + 1, a, D => if a + 20 ≤ P then stB K P f (a + 20) (insD K a (a + 20) D) else insD K a P D
def StBI (K : Int → Int → Int) (P a : Nat) (D T : List Int) : Prop := ∃ f, P ≤ a + f ∧ stB K P f a D = T
theorem StBI.start (K : Int → Int → Int) (P : Nat) (D : List Int) : StBI K P 0 D (stB K P P 0 D) := ⟨P, by omega, rfl⟩
theorem StBI.step {K : Int → Int → Int} {P a b : Nat} {D T : List Int} (h : StBI K P a D T) (hb : a + 20 = b) (hle : b ≤ P) : StBI K P b (insD K a b D) T := by
 obtain ⟨f, hf, e⟩ := h
 subst hb
 obtain ⟨f, rfl⟩ : ∃ q, f = q + 1 := ⟨f - 1, by omega⟩
 rw [stB, if_pos hle] at e
 exact ⟨f, by omega, e⟩
theorem StBI.last {K : Int → Int → Int} {P a b : Nat} {D T : List Int} (h : StBI K P a D T) (hb : a + 20 = b) (hle : ¬ b ≤ P) : insD K a P D = T := by
 obtain ⟨f, hf, e⟩ := h
 subst hb
 cases f with
 | zero => exact e
 | succ f => rw [stB, if_neg hle] at e; exact e
/-- one turn of merges of blocks of s -/
def mgP (K : Int → Int → Int) (P s : Nat) : Nat → Nat → List Int → List Int
 | 0, _, D => D
 | f + 1, a, D => if a + 2 * s ≤ P then mgP K P s f (a + 2 * s) (symF K (a + 2 * s - a) a (a + s) (a + 2 * s) D) else if a + s < P then symF K (P - a) a (a + s) P D else D
def MgI (K : Int → Int → Int) (P s a : Nat) (D T : List Int) : Prop := ∃ f, P ≤ a + f ∧ mgP K P s f a D = T
theorem MgI.step {K : Int → Int → Int} {P s a b m q : Nat} {D T : List Int} (h : MgI K P s a D T) (hs : 20 ≤ s) (hq : 2 * s = q) (hb : a + q = b) (hm : a + s = m) (hle : b ≤ P) : MgI K P s b (symF K (b - a) a m b D) T := by
 obtain ⟨f, hf, e⟩ := h
 subst hq
 subst hb
 subst hm
 obtain ⟨f, rfl⟩ : ∃ q, f = q + 1 := ⟨f - 1, by omega⟩
 rw [mgP, if_pos hle] at e
 exact ⟨f, by omega, e⟩
theorem MgI.last {K : Int → Int → Int} {P s a b m q : Nat} {D T : List Int} (h : MgI K P s a D T) (hs : 20 ≤ s) (hq : 2 * s = q) (hb : a + q = b) (hm : a + s = m) (hle : ¬ b ≤ P) (hmP : m < P) : symF K (P - a) a m P D = T := by
 obtain ⟨f, hf, e⟩ := h
 subst hq
 subst hb
 subst hm
 obtain ⟨f, rfl⟩ : ∃ q, f = q + 1 := ⟨f - 1, by omega⟩
 rw [mgP, if_neg hle, if_pos hmP] at e
 exact e
theorem MgI.done {K : Int → Int → Int} {P s a b m q : Nat} {D T : List Int} (h : MgI K P s a D T) (hq : 2 * s = q) (hb : a + q = b) (hm : a + s = m) (hle : ¬ b ≤ P) (hmP : ¬ m < P) : D = T := by
 obtain ⟨f, hf, e⟩ := h
 subst hq
 subst hb
 subst hm
 cases f with
 | zero => exact e
 | succ f => rw [mgP, if_neg hle, if_neg hmP] at e; exact e
/-- all turns of merges -/
def mgA (K : Int → Int → Int) (P : Nat) : Nat → Nat → List Int → List Int
 | 0, _, D => D
 | f + 1, s, D => if s < P then mgA K P f (2 * s) (mgP K P s P 0 D) else D
def MgAI (K : Int → Int → Int) (P s : Nat) (D T : List Int) : Prop := ∃ f, P ≤ s + f ∧ mgA K P f s D = T
theorem MgAI.step {K : Int → Int → Int} {P s q : Nat} {D T : List Int} (h : MgAI K P s D T) (hs : 20 ≤ s) (hq : 2 * s = q) (hlt : s < P) : MgAI K P q (mgP K P s P 0 D) T := by
 obtain ⟨f, hf, e⟩ := h
 subst hq
 obtain ⟨f, rfl⟩ : ∃ q, f = q + 1 := ⟨f - 1, by omega⟩
 rw [mgA, if_pos hlt] at e
 exact ⟨f, by omega, e⟩
theorem MgAI.done {K : Int → Int → Int} {P s : Nat} {D T : List Int} (h : MgAI K P s D T) (hlt : ¬ s < P) : D = T := by
 obtain ⟨f, hf, e⟩ := h
 cases f with
 | zero => exact e
 | succ f => rw [mgA, if_neg hlt] at e; exact e
/-- the stable sort -/
def stD (K : Int → Int → Int) (P : Nat) (D : List Int) : List Int := mgA K P P 20 (stB K P P 0 D)
theorem MgAI.start {K : Int → Int → Int} {P : Nat} {D E : List Int} (h : stB K P P 0 D = E) : MgAI K P 20 E (stD K P D) := ⟨P, by omega, by rw [← h]; rfl⟩
theorem MgI.start (K : Int → Int → Int) (P s : Nat) (D : List Int) : MgI K P s 0 D (mgP K P s P 0 D) := ⟨P, by omega, rfl⟩
end Go.Bk
namespace Go.Bk
open Go Go.RowKit
/-- a row of numbers that holds the numbers it held, in an order of which something is known; nothing else was written -/
def SX (t : TypeId) (w0 : World) (g : Nat) (D0 : List Int) (F : List Int → Prop) (wr : World) : Prop := ∃ D, D.Perm D0 ∧ F D ∧ Blk wr g t (i64s D).toArray ∧ Only g w0 wr
theorem SX.drewN {t : TypeId} {w0 wr : World} {g : Nat} {D0 : List Int} {F : List Int → Prop} (h : SX t w0 g D0 F wr) (n : Nat) : SX t w0 g D0 F (wr.drewN n) := by
 obtain ⟨D, h1, hF, h2, h3⟩ := h
 exact ⟨D, h1, hF, h2, h3.drewN n⟩
theorem SX.drew {t : TypeId} {w0 wr : World} {g : Nat} {D0 : List Int} {F : List Int → Prop} (h : SX t w0 g D0 F wr) : SX t w0 g D0 F wr.drew := h.drewN 1
theorem SX.start {t : TypeId} {w : World} {g : Nat} {D : List Int} {F : List Int → Prop} (h : Blk w g t (i64s D).toArray) (hF : F D) : SX t w g D F w := ⟨D, .refl _, hF, h, Only.refl _ _⟩
theorem SX.imp {t : TypeId} {w0 wr : World} {g : Nat} {D0 : List Int} {F G : List Int → Prop} (h : SX t w0 g D0 F wr) (hFG : ∀ D, F D → G D) : SX t w0 g D0 G wr := by
 obtain ⟨D, h1, hF, h2, h3⟩ := h
 exact ⟨D, h1, hFG D hF, h2, h3⟩
theorem SX.swap {t : TypeId} {w0 wr : World} {g i j : Nat} {D0 D : List Int} {F : List Int → Prop} {a b : Int} (hp : D.Perm D0) (hF : F (swp D i j)) (h : Blk wr g t (i64s D).toArray) (ho : Only g w0 wr) (hi : D[i]? = some a) (hj : D[j]? = some b) :
  SX t w0 g D0 F ((wr.setCell ⟨g, i, none⟩ (.int .i64 b)).setCell ⟨g, j, none⟩ (.int .i64 a)) :=
 ⟨_, (perm_swap hi hj).trans hp, by rw [swp_eq hi hj]; exact hF, blk_put (blk_put h i b) j a, (ho.setCell _ _).setCell _ _⟩
theorem SX.swap2 {t : TypeId} {w0 wr : World} {g i j : Nat} {D0 D : List Int} {F : List Int → Prop} {a b : Int} (hp : D.Perm D0) (hF : F (swp D i j)) (h : Blk wr g t (i64s D).toArray) (ho : Only g w0 wr) (hi : D[i]? = some a) (hj : D[j]? = some b) :
  SX t w0 g D0 F ((wr.setCell ⟨g, j, none⟩ (.int .i64 a)).setCell ⟨g, i, none⟩ (.int .i64 b)) :=
 ⟨_, (perm_swap hj hi).trans hp, by rw [swp_eq2 hi hj]; exact hF, blk_put (blk_put h j a) i b, (ho.setCell _ _).setCell _ _⟩
end Go.Bk
namespace Go.Proofs.YtgmapikcpnffhaaGreat
open Go.RowKit Go.Bk
set_option linter.unusedVariables false
set_option linter.unusedSimpArgs false
/-- the row holds just these numbers, which are those it held; nothing else was written -/
def SoT (g : Nat) (D0 T : List Int) (w : World) (en : Ending) (w' : World) : Prop := en = .returned (.tuple #[]) ∧ T.Perm D0 ∧ Blk w' g 3 (i64s T).toArray ∧ Only g w w'
set_option maxRecDepth 100000 in
set_option maxHeartbeats 4000000 in
theorem swapR_x (fv : Value) (g P c a b n : Nat) (D0 : List Int) (w : World) (h : Blk w g 3 (i64s D0).toArray) (hP : D0.length = P) (ha : a + n ≤ P) (hb : b + n ≤ P) (hP2 : P ≤ 4096) :
  Calls Tryz.prog 145 #[.slice (some ⟨g, 0, none⟩) P c, .int .i64 (a : Int), .int .i64 (b : Int), .int .i64 (n : Int), fv] w (SoT g D0 (swR a b n 0 D0) w) := by
 obtain ⟨T, hT⟩ : ∃ T, swR a b n 0 D0 = T := ⟨_, rfl⟩
 rw [hT]
 have H0 := Lib.hid (SX.start (F := fun D => swR a b (n - 0) 0 D = T) h hT)
 have HP := Lib.hid hP
 clear h hP hT
 go_enter Tryz.func145, Tryz.ntmps145
 go_wp2
 go_loopw [10] (fun i wr => ∃ k : Nat, k ≤ n ∧ i = .int .i64 k ∧ Hid (SX 3 w g D0 (fun D => swR a b (n - k) k D = T) wr)) (fun i _ => n - (intOf i).toNat)
 case atStart => exact ⟨0, by omega, rfl, H0⟩
 case round =>
  clear H0
  obtain ⟨k, hk, rfl, IS⟩ := hrel
  by_cases hkn : k < n
  ·have t1 : decide ((k : Int) < n) = true := by simp; omega
   obtain ⟨D, hp, hF, hbk, ho⟩ := IS.out
   obtain ⟨x, hx, _⟩ := SP.len hp HP.out (show a + k < P by omega)
   obtain ⟨y, hy, _⟩ := SP.len hp HP.out (show b + k < P by omega)
   have c1 := blk_num hbk hx
   have c2 := blk_num hbk hy
   have z1 := frozen_of_row wr g (a + k) _ _ hbk
   have z2 := frozen_of_row wr g (b + k) _ _ hbk
   have y1 := hbk.lt
   have w1 : IntKind.i64.wrap ((a : Int) + (k : Int)) = ((a + k : Nat) : Int) := by rw [show (a : Int) + (k : Int) = ((a + k : Nat) : Int) by omega]; exact IntWalk.i64_in _ (by omega)
   have w2 : IntKind.i64.wrap ((b : Int) + (k : Int)) = ((b + k : Nat) : Int) := by rw [show (b : Int) + (k : Int) = ((b + k : Nat) : Int) by omega]; exact IntWalk.i64_in _ (by omega)
   have t2 : ((a + k : Nat) : Int) < (P : Int) := by omega
   have t3 : ((b + k : Nat) : Int) < (P : Int) := by omega
   have y2 := blk_put hbk (a + k) y
   have y3 := blk_put hbk (b + k) x
   have z3 := frozen_of_row _ g (b + k) _ _ y2
   have z4 := frozen_of_row _ g (a + k) _ _ y3
   obtain ⟨u3, c3⟩ := blk_some y2 (show b + k < (D.set (a + k) y).length by rw [List.length_set, hp.length_eq, HP.out]; omega)
   obtain ⟨u4, c4⟩ := blk_some y3 (show a + k < (D.set (b + k) x).length by rw [List.length_set, hp.length_eq, HP.out]; omega)
   have HA := Lib.hid (SX.swap (F := fun D => swR a b (n - (k + 1)) (k + 1) D = T) hp (swR_step hkn hF) hbk ho hx hy)
   have HB := Lib.hid (SX.swap2 (F := fun D => swR a b (n - (k + 1)) (k + 1) D = T) hp (swR_step hkn hF) hbk ho hx hy)
   obtain ⟨i1, hi1⟩ : ∃ i, a + k = i := ⟨_, rfl⟩
   obtain ⟨j1, hj1⟩ : ∃ i, b + k = i := ⟨_, rfl⟩
   rw [hi1] at c1 z1 w1 t2 c3 c4 z3 z4 HA HB
   rw [hj1] at c2 z2 w2 t3 c3 c4 z3 z4 HA HB
   clear hx hy hp hF hbk ho hi1 hj1 IS y2 y3
   obtain ⟨wo, rfl⟩ : ∃ wo : World, wo = wr := ⟨_, rfl⟩
   go_wp2_with fail
   go_region
   all_goals
    go_wp2
    first
     | exact ⟨⟨k + 1, by omega, by simp, Lib.hid (HA.out.drewN _)⟩, by simp [intOf]; omega⟩
     | exact ⟨⟨k + 1, by omega, by simp, Lib.hid (HB.out.drewN _)⟩, by simp [intOf]; omega⟩
     | exact ⟨⟨k + 1, by omega, by simp, Lib.hid HA.out.drew⟩, by simp [intOf]; omega⟩
     | exact ⟨⟨k + 1, by omega, by simp, Lib.hid HB.out.drew⟩, by simp [intOf]; omega⟩
     | trace_state
  ·have t1 : decide ((k : Int) < n) = false := by simp; omega
   go_wp2
   go_end0
   obtain ⟨D, hp, hF, hbk, ho⟩ := IS.out
   obtain rfl := swR_end hkn hF
   exact ⟨rfl, hp, hbk, ho⟩
set_option maxRecDepth 100000 in
set_option maxHeartbeats 4000000 in
theorem rot_x (fv : Value) (g P c a m b : Nat) (D0 : List Int) (w : World) (h : Blk w g 3 (i64s D0).toArray) (hP : D0.length = P) (ha : a < m) (hm : m < b) (hb : b ≤ P) (hP2 : P ≤ 4096) :
  Calls Tryz.prog 125 #[.slice (some ⟨g, 0, none⟩) P c, .int .i64 (a : Int), .int .i64 (m : Int), .int .i64 (b : Int), fv] w (SoT g D0 (rotD a m b D0) w) := by
 obtain ⟨T, hT⟩ : ∃ T, rotD a m b D0 = T := ⟨_, rfl⟩
 rw [hT]
 have H0 := Lib.hid (SX.start (F := fun D => RotI m (m - a) (b - m) D T) h (hT ▸ RotI.start a m b D0))
 have HP := Lib.hid hP
 obtain ⟨i0, hi0⟩ : ∃ i, m - a = i := ⟨_, rfl⟩
 obtain ⟨j0, hj0⟩ : ∃ j, b - m = j := ⟨_, rfl⟩
 rw [hi0, hj0] at H0
 have w1 : IntKind.i64.wrap ((m : Int) - (a : Int)) = (i0 : Int) := by rw [show (m : Int) - (a : Int) = (i0 : Int) by omega]; exact IntWalk.i64_in _ (by omega)
 have w2 : IntKind.i64.wrap ((b : Int) - (m : Int)) = (j0 : Int) := by rw [show (b : Int) - (m : Int) = (j0 : Int) by omega]; exact IntWalk.i64_in _ (by omega)
 clear h hP hT
 go_enter Tryz.func125, Tryz.ntmps125
 go_wp2
 go_loopw [10, 11] (fun iv jv wr => ∃ i j : Nat, 0 < i ∧ 0 < j ∧ i ≤ i0 ∧ j ≤ j0 ∧ iv = .int .i64 i ∧ jv = .int .i64 j ∧ Hid (SX 3 w g D0 (fun D => RotI m i j D T) wr)) (fun iv jv _ => (intOf iv + intOf jv).toNat)
 case atStart => exact ⟨i0, j0, by omega, by omega, by omega, by omega, rfl, rfl, H0⟩
 case round =>
  clear H0 w1 w2
  obtain ⟨i, j, hi, hj, hii, hjj, rfl, rfl, IS⟩ := hrel
  obtain ⟨D, hp, hF, hbk, ho⟩ := IS.out
  have HPM := Lib.hid hp
  have HBK := Lib.hid hbk
  have HO := Lib.hid ho
  have HL := Lib.hid (hp.length_eq.trans HP.out)
  have w1 : IntKind.i64.wrap ((m : Int) - (i : Int)) = ((m - i : Nat) : Int) := by rw [show (m : Int) - (i : Int) = ((m - i : Nat) : Int) by omega]; exact IntWalk.i64_in _ (by omega)
  have HF := Lib.hid hF
  clear hp hF hbk ho IS
  by_cases hij : i = j
  ·subst hij
   have t1 : ((i : Int) != (i : Int)) = false := by simp
   go_wp2_with fail
   (with_reducible refine (swapR_x fv g P c (m - i) m i D _ HBK.out HL.out (by omega) (by omega) hP2).mono ?_)
   have HQ := Lib.hid (RotI.eq HF.out hi)
   rw [HQ.out]
   rintro en w3 ⟨rfl, hs⟩
   have HS := Lib.hid hs
   clear hs
   go_wp2
   go_end0
   exact ⟨rfl, HS.out.1.trans HPM.out, HS.out.2.1, HO.out.trans HS.out.2.2⟩
  ·have t1 : ((i : Int) != (j : Int)) = true := by simp; omega
   by_cases hgt : j < i
   ·have t2 : decide ((j : Int) < (i : Int)) = true := by simp; omega
    have t2n : decide (j < i) = true := by simp; omega
    have w2 : IntKind.i64.wrap ((i : Int) - (j : Int)) = ((i - j : Nat) : Int) := by rw [show (i : Int) - (j : Int) = ((i - j : Nat) : Int) by omega]; exact IntWalk.i64_in _ (by omega)
    go_wp2_with fail
    (with_reducible refine (swapR_x fv g P c (m - i) m j D _ HBK.out HL.out (by omega) (by omega) hP2).mono ?_)
    rintro en w3 ⟨rfl, hs⟩
    have HS := Lib.hid (show SX 3 w g D0 (fun D => RotI m (i - j) j D T) w3 from ⟨_, hs.1.trans HPM.out, RotI.gt HF.out hj hgt, hs.2.1, HO.out.trans hs.2.2⟩)
    clear hs
    go_wp2
    exact ⟨⟨i - j, j, by omega, by omega, by omega, by omega, rfl, rfl, HS⟩, by simp [intOf]; omega⟩
   ·have t2 : decide ((j : Int) < (i : Int)) = false := by simp; omega
    have t2n : decide (j < i) = false := by simp; omega
    have w2 : IntKind.i64.wrap ((j : Int) - (i : Int)) = ((j - i : Nat) : Int) := by rw [show (j : Int) - (i : Int) = ((j - i : Nat) : Int) by omega]; exact IntWalk.i64_in _ (by omega)
    obtain ⟨q, hq⟩ : ∃ q, m + j = q := ⟨_, rfl⟩
    have w3 : IntKind.i64.wrap ((m : Int) + (j : Int)) = (q : Int) := by rw [show (m : Int) + (j : Int) = (q : Int) by omega]; exact IntWalk.i64_in _ (by omega)
    have w4 : IntKind.i64.wrap ((q : Int) - (i : Int)) = ((q - i : Nat) : Int) := by rw [show (q : Int) - (i : Int) = ((q - i : Nat) : Int) by omega]; exact IntWalk.i64_in _ (by omega)
    go_wp2_with fail
    (with_reducible refine (swapR_x fv g P c (m - i) (q - i) i D _ HBK.out HL.out (by omega) (by omega) hP2).mono ?_)
    rintro en w3' ⟨rfl, hs⟩
    have HS := Lib.hid (show SX 3 w g D0 (fun D => RotI m i (j - i) D T) w3' from ⟨_, hs.1.trans HPM.out, (by have h := RotI.lt HF.out hi (show i < j by omega); rw [hq] at h; exact h), hs.2.1, HO.out.trans hs.2.2⟩)
    clear hs
    go_wp2
    exact ⟨⟨i, j - i, by omega, by omega, by omega, by omega, rfl, rfl, HS⟩, by simp [intOf]; omega⟩
end Go.Proofs.YtgmapikcpnffhaaGreat
namespace Go.Proofs.YtgmapikcpnffhaaGreat
open Go.RowKit Go.Bk
set_option linter.unusedVariables false
set_option linter.unusedSimpArgs false
/-- what compares: it answers at the row's numbers, wherever only the row was written, and writes nothing -/
def CmpOk (K : Int → Int → Int) (ba g : Nat) (D0 : List Int) (w0 : World) : Prop := ∀ wr, Only g w0 wr → ∀ x y, x ∈ D0 → y ∈ D0 →
 Calls Tryz.prog 32 #[.int .i64 x, .int .i64 y, .pointer (some ⟨ba, 0, none⟩)] wr fun e w' => e = .returned (.int .i64 (K x y)) ∧ ∃ m, w' = wr.drewN m
theorem CmpOk.on {K : Int → Int → Int} {ba g : Nat} {D0 D : List Int} {w0 wr : World} (h : CmpOk K ba g D0 w0) (ho : Only g w0 wr) (hp : D.Perm D0) : CmpOk K ba g D wr :=
 fun w' h' x y hx hy => h w' (ho.trans h') x y (hp.mem_iff.1 hx) (hp.mem_iff.1 hy)
theorem CmpOk.at {K : Int → Int → Int} {ba g : Nat} {D0 : List Int} {w0 wr : World} (h : CmpOk K ba g D0 w0) (ho : Only g w0 wr) {x y : Int} (hx : x ∈ D0) (hy : y ∈ D0) (n : Nat) :
  Calls Tryz.prog 32 #[.int .i64 x, .int .i64 y, .pointer (some ⟨ba, 0, none⟩)] (wr.drewN n) fun e w' => e = .returned (.int .i64 (K x y)) ∧ ∃ m, w' = wr.drewN m := Calls.quiet_of (h _ (ho.drewN n) x y hx hy)
end Go.Proofs.YtgmapikcpnffhaaGreat
namespace Go.Proofs.YtgmapikcpnffhaaGreat
open Go.RowKit Go.Bk
set_option linter.unusedVariables false
set_option linter.unusedSimpArgs false
set_option maxRecDepth 100000 in
set_option maxHeartbeats 8000000 in
theorem ins_x (K : Int → Int → Int) (ba g P c a b : Nat) (D0 : List Int) (w : World) (h : Blk w g 3 (i64s D0).toArray) (hP : D0.length = P) (hb : b ≤ P) (hab : a ≤ b) (hP2 : P ≤ 4096) (hk : CmpOk K ba g D0 w) :
  Calls Tryz.prog 109 #[.slice (some ⟨g, 0, none⟩) P c, .int .i64 (a : Int), .int .i64 (b : Int), .func (.func 32) #[] #[.pointer (some ⟨ba, 0, none⟩)]] w (SoT g D0 (insD K a b D0) w) := by
 obtain ⟨T, hT⟩ : ∃ T, insD K a b D0 = T := ⟨_, rfl⟩
 rw [hT]
 have H0 := Lib.hid (SX.start (F := fun D => insO K a (b - (a + 1)) (a + 1) D = T) h hT)
 have HP := Lib.hid hP
 have HK := Lib.hid hk
 clear h hP hk hT
 go_enter Tryz.func109, Tryz.ntmps109
 go_wp2
 go_loopw [8] (fun i wr => ∃ k : Nat, a < k ∧ k ≤ b + 1 ∧ i = .int .i64 k ∧ Hid (SX 3 w g D0 (fun D => insO K a (b - k) k D = T) wr)) (fun i _ => b + 1 - (intOf i).toNat)
 case atStart => exact ⟨a + 1, by omega, by omega, by simp, H0⟩
 case round =>
  clear H0
  obtain ⟨k, hk1, hk2, rfl, IS⟩ := hrel
  by_cases hkb : k < b
  ·have t1 : decide ((k : Int) < b) = true := by simp; omega
   go_wp2_with fail
   go_loopw [9] (fun j wr => ∃ q : Nat, a ≤ q ∧ q ≤ k ∧ j = .int .i64 q ∧ Hid (SX 3 w g D0 (fun D => insO K a (b - (k + 1)) (k + 1) (insI K a q D) = T) wr)) (fun j _ => (intOf j).toNat)
   case atStart => exact ⟨k, by omega, by omega, rfl, Lib.hid (IS.out.imp (fun D h => insO_step hkb h))⟩
   case round =>
    clear IS
    obtain ⟨q, hq1, hq2, rfl, IS⟩ := hrel
    by_cases hqa : a < q
    ·have t2 : decide ((a : Int) < q) = true := by simp; omega
     have t2n : decide (a < q) = true := by simp; omega
     obtain ⟨q0, rfl⟩ : ∃ q0, q = q0 + 1 := ⟨q - 1, by omega⟩
     obtain ⟨D, hp, hF, hbk, ho⟩ := IS.out
     obtain ⟨x, hx, hxm⟩ := SP.len hp HP.out (show q0 + 1 < P by omega)
     obtain ⟨y, hy, hym⟩ := SP.len hp HP.out (show q0 < P by omega)
     have c1 := blk_num hbk hx
     have c2 := blk_num hbk hy
     have y1 := hbk.lt
     have w1 : IntKind.i64.wrap (((q0 + 1 : Nat) : Int) - 1) = (q0 : Int) := by rw [show ((q0 + 1 : Nat) : Int) - 1 = (q0 : Int) by omega]; exact IntWalk.i64_in _ (by omega)
     have t3 : ((q0 + 1 : Nat) : Int) < (P : Int) := by omega
     have t4 : ((q0 : Nat) : Int) < (P : Int) := by omega
     have HC := Lib.hid (HK.out.at ho hxm hym)
     obtain ⟨v, hv⟩ : ∃ v, K x y = v := ⟨_, rfl⟩
     rw [hv] at HC
     obtain ⟨q1, hq1'⟩ : ∃ q1, q0 + 1 = q1 := ⟨_, rfl⟩
     rw [hq1'] at c1 w1 t3 t2 t2n ⊢
     have HQ := Lib.hid hq1'
     have HX := Lib.hid hx
     have HY := Lib.hid hy
     have HPM := Lib.hid hp
     have HBK := Lib.hid hbk
     have HO := Lib.hid ho
     have HV := Lib.hid hv
     have HF := Lib.hid hF
     have HR := Lib.hid (show a ≤ q0 ∧ q0 ≤ k ∧ q0 < q1 by omega)
     have HQA := Lib.hid hqa
     clear hx hy hxm hym hp hbk ho hv hF hq1' hqa hq1 hq2 IS
     by_cases hv0 : v < 0
     ·have t5 : decide (v < 0) = true := by simpa using hv0
      have HSW := Lib.hid (show insO K a (b - (k + 1)) (k + 1) (insI K a q0 (swp D q1 q0)) = T from by
       have h1 := insI_swap (K := K) HQA.out HX.out HY.out (by rw [HV.out]; exact hv0)
       have h2 := HF.out
       rw [h1, HQ.out] at h2
       exact h2)
      clear hv0
      go_wp2_with fail
      go_quiet ((go_at_call 32; exact HC.out _))
      have hbk := HBK.out.drewN nq
      have ho := HO.out.drewN nq
      have hx := HX.out
      rw [HQ.out] at hx
      have hy := HY.out
      have hp := HPM.out
      generalize wr.drewN nq = wq at hbk ho ⊢
      clear HC c1 c2 y1 HBK HO
      have c1 := blk_num hbk hx
      have c2 := blk_num hbk hy
      have z1 := frozen_of_row wq g q1 _ _ hbk
      have z2 := frozen_of_row wq g q0 _ _ hbk
      have y1 := hbk.lt
      have y2 := blk_put hbk q1 y
      have y3 := blk_put hbk q0 x
      have z3 := frozen_of_row _ g q0 _ _ y2
      have z4 := frozen_of_row _ g q1 _ _ y3
      obtain ⟨u3, c3⟩ := blk_some y2 (show q0 < (D.set q1 y).length by rw [List.length_set, hp.length_eq, HP.out]; omega)
      obtain ⟨u4, c4⟩ := blk_some y3 (show q1 < (D.set q0 x).length by rw [List.length_set, hp.length_eq, HP.out]; omega)
      have HA := Lib.hid (SX.swap (F := fun D => insO K a (b - (k + 1)) (k + 1) (insI K a q0 D) = T) hp HSW.out hbk ho hx hy)
      have HB := Lib.hid (SX.swap2 (F := fun D => insO K a (b - (k + 1)) (k + 1) (insI K a q0 D) = T) hp HSW.out hbk ho hx hy)
      clear hx hy hp hbk ho y2 y3
      go_wp2_with fail
      go_region
      all_goals
       have hq := HR.out
       go_wp2
       first
        | exact ⟨⟨q0, by omega, by omega, rfl, Lib.hid (HA.out.drewN _)⟩, by simp [intOf]; omega⟩
        | exact ⟨⟨q0, by omega, by omega, rfl, Lib.hid (HB.out.drewN _)⟩, by simp [intOf]; omega⟩
        | exact ⟨⟨q0, by omega, by omega, rfl, Lib.hid HA.out.drew⟩, by simp [intOf]; omega⟩
        | exact ⟨⟨q0, by omega, by omega, rfl, Lib.hid HB.out.drew⟩, by simp [intOf]; omega⟩
        | trace_state
     ·have t5 : decide (v < 0) = false := by simpa using hv0
      have HSW := Lib.hid (show insO K a (b - (k + 1)) (k + 1) D = T from by
       have h1 := insI_stay (K := K) (a := a) HX.out HY.out (by rw [HV.out]; exact hv0)
       have h2 := HF.out
       rw [h1] at h2
       exact h2)
      clear hv0
      go_wp2_with fail
      go_quiet ((go_at_call 32; exact HC.out _))
      go_wp2
      exact ⟨⟨k + 1, by omega, by omega, by simp, Lib.hid ⟨D, HPM.out, HSW.out, HBK.out.drewN _, HO.out.drewN _⟩⟩, by simp [intOf]; omega⟩
    ·have t2 : decide ((a : Int) < q) = false := by simp; omega
     have t2n : decide (a < q) = false := by simp; omega
     go_wp2_with fail
     go_quiet (fail)
     go_wp2
     exact ⟨⟨k + 1, by omega, by omega, by simp, Lib.hid ((IS.out.imp (fun D h => by rw [insI_end hqa] at h; exact h)).drewN _)⟩, by simp [intOf]; omega⟩
  ·have t1 : decide ((k : Int) < b) = false := by simp; omega
   go_wp2
   go_end0
   obtain ⟨D, hp, hF, hbk, ho⟩ := IS.out
   obtain rfl := insO_end hkb hF
   exact ⟨rfl, hp, hbk, ho⟩
end Go.Proofs.YtgmapikcpnffhaaGreat
namespace Go.Proofs.YtgmapikcpnffhaaGreat
open Go.RowKit Go.Bk
set_option linter.unusedVariables false
set_option linter.unusedSimpArgs false
set_option maxRecDepth 100000 in
set_option maxHeartbeats 8000000 in
theorem sym_x (K : Int → Int → Int) (ba g P c : Nat) (hP2 : P ≤ 4096) : ∀ (sz a m b : Nat) (D0 : List Int) (w : World), b - a ≤ sz → Blk w g 3 (i64s D0).toArray → D0.length = P → a < m → m < b → b ≤ P → CmpOk K ba g D0 w →
  Calls Tryz.prog 110 #[.slice (some ⟨g, 0, none⟩) P c, .int .i64 (a : Int), .int .i64 (m : Int), .int .i64 (b : Int), .func (.func 32) #[] #[.pointer (some ⟨ba, 0, none⟩)]] w (SoT g D0 (symF K sz a m b D0) w) := by
 intro sz
 induction sz with
 | zero => intro a m b D0 w hsz h hP ha hm hb hk; omega
 | succ sz ih =>
  intro a m b D0 w hsz h hP ha hm hb hk
  have IH := Lib.hid ih
  obtain ⟨T, hT⟩ : ∃ T, symF K (sz + 1) a m b D0 = T := ⟨_, rfl⟩
  rw [hT]
  have HT0 := Lib.hid hT
  have H0 := Lib.hid h
  have HP := Lib.hid hP
  have HK := Lib.hid hk
  clear h hP hk ih hT
  have w1 : IntKind.i64.wrap ((m : Int) - (a : Int)) = ((m - a : Nat) : Int) := by rw [show (m : Int) - (a : Int) = ((m - a : Nat) : Int) by omega]; exact IntWalk.i64_in _ (by omega)
  have w2 : IntKind.i64.wrap ((b : Int) - (m : Int)) = ((b - m : Nat) : Int) := by rw [show (b : Int) - (m : Int) = ((b - m : Nat) : Int) by omega]; exact IntWalk.i64_in _ (by omega)
  go_enter Tryz.func110, Tryz.ntmps110
  by_cases e1 : m - a = 1
  ·have t1 : (((m - a : Nat) : Int) == 1) = true := by rw [e1]; rfl
   go_wp2
   obtain ⟨I, hI⟩ : ∃ I, bsV (fun h => isLt K D0 h a) m b = I := ⟨_, rfl⟩
   have HI := Lib.hid hI
   have HTS := Lib.hid (show upS (I - 1 - a) a D0 = T from by rw [← hI, ← HT0.out, symF_one e1])
   clear hI
   go_loopw [10, 11] (fun iv jv wr => ∃ i j : Nat, m ≤ i ∧ i ≤ j ∧ j ≤ b ∧ iv = .int .i64 i ∧ jv = .int .i64 j ∧ Hid (Blk wr g 3 (i64s D0).toArray ∧ Only g w wr ∧ BSI (fun h => isLt K D0 h a) I i j)) (fun iv jv _ => (intOf jv - intOf iv).toNat)
   case atStart => exact ⟨_, _, by omega, by omega, by omega, rfl, rfl, Lib.hid ⟨H0.out, Only.refl _ _, by rw [← HI.out]; exact BSI.start _ _ _⟩⟩
   case round =>
    clear H0
    obtain ⟨i, j, hi, hij, hj, rfl, rfl, IS⟩ := hrel
    by_cases hlt : i < j
    ·have b1 : decide ((i : Int) < j) = true := by simp; omega
     have b1n : decide (i < j) = true := by simp; omega
     obtain ⟨h, hh⟩ : ∃ h, (i + j) / 2 = h := ⟨_, rfl⟩
     have b2 : ((i : Int) + (j : Int)) / 2 = (h : Int) := by omega
     have hb1 : i ≤ h := by omega
     have hb2 : h < j := by omega
     skip
     obtain ⟨hbk, ho, hbs⟩ := IS.out
     obtain ⟨x, hx, hxm⟩ := SP.len (List.Perm.refl D0) HP.out (show h < P by omega)
     obtain ⟨y, hy, hym⟩ := SP.len (List.Perm.refl D0) HP.out (show a < P by omega)
     have HX := Lib.hid hx
     have HY := Lib.hid hy
     have HBK := Lib.hid hbk
     have HO := Lib.hid ho
     have HBS := Lib.hid hbs
     have c1 := blk_num hbk hx
     have c2 := blk_num hbk hy
     have y1 := hbk.lt
     have b3 : ((h : Nat) : Int) < (P : Int) := by omega
     have b4 : ((a : Nat) : Int) < (P : Int) := by omega
     have HC := Lib.hid (HK.out.at ho hxm hym)
     obtain ⟨v, hv⟩ : ∃ v, K x y = v := ⟨_, rfl⟩
     rw [hv] at HC
     have HV := Lib.hid hv
     clear hx hy hxm hym hbk ho hbs hv IS
     by_cases hv0 : v < 0
     ·have b5 : decide (v < 0) = true := by simpa using hv0
      have HT := Lib.hid (BSI.up HBS.out hh hlt (by simp only [isLt_eq HX.out HY.out]; rw [HV.out]; simpa using hv0))
      clear hv0 hh
      go_wp2_with fail
      go_quiet ((go_at_call 32; exact HC.out _))
      go_wp2
      exact ⟨⟨h + 1, j, by omega, by omega, by omega, by simp, rfl, Lib.hid ⟨HBK.out.drewN _, HO.out.drewN _, HT.out⟩⟩, by simp [intOf]; omega⟩
     ·have b5 : decide (v < 0) = false := by simpa using hv0
      have HT := Lib.hid (BSI.dn HBS.out hh hlt (by simp only [isLt_eq HX.out HY.out]; rw [HV.out]; simpa using hv0))
      clear hv0 hh
      go_wp2_with fail
      go_quiet ((go_at_call 32; exact HC.out _))
      go_wp2
      exact ⟨⟨i, h, by omega, by omega, by omega, rfl, rfl, Lib.hid ⟨HBK.out.drewN _, HO.out.drewN _, HT.out⟩⟩, by simp [intOf]; omega⟩
    ·have b1 : decide ((i : Int) < j) = false := by simp; omega
     have b1n : decide (i < j) = false := by simp; omega
     have hije : i = j := by omega
     subst hije
     obtain ⟨hbk, ho, hbs⟩ := IS.out
     have hiI := hbs.done
     subst hiI
     clear hbs
     obtain ⟨i0, hi0⟩ : ∃ i0, i = i0 + 1 := ⟨i - 1, by omega⟩
     subst hi0
     have b6 : IntKind.i64.wrap (((i0 + 1 : Nat) : Int) - 1) = (i0 : Int) := by rw [show ((i0 + 1 : Nat) : Int) - 1 = (i0 : Int) by omega]; exact IntWalk.i64_in _ (by omega)
     obtain ⟨i1, hi1⟩ : ∃ i1, i0 + 1 = i1 := ⟨_, rfl⟩
     have HI1 := Lib.hid hi1
     have HTT := Lib.hid (show upS (i0 - a) a D0 = T from HTS.out)
     rw [hi1] at b6 b1 b1n hi hj ⊢
     go_wp2_with fail
     go_loopw [13] (fun kv wr => ∃ k : Nat, k ≤ i0 ∧ kv = .int .i64 k ∧ Hid (SX 3 w g D0 (fun D => upS (i0 - k) k D = T) wr)) (fun kv _ => i0 - (intOf kv).toNat)
     case atStart => exact ⟨a, by omega, rfl, Lib.hid ⟨D0, .refl _, HTT.out, hbk, ho⟩⟩
     case round =>
      clear IS b1 b1n hbk ho
      obtain ⟨k, hk, rfl, IS⟩ := hrel
      by_cases hki : k < i0
      ·have b1 : decide ((k : Int) < (i0 : Int)) = true := by simp; omega
       have b1n : decide (k < i0) = true := by simp; omega
       obtain ⟨q, hq⟩ : ∃ q, k + 1 = q := ⟨_, rfl⟩
       have b7 : IntKind.i64.wrap ((k : Int) + 1) = (q : Int) := by rw [show (k : Int) + 1 = (q : Int) by omega]; exact IntWalk.i64_in _ (by omega)
       have b7' : (k : Int) + 1 = (q : Int) := by omega
       obtain ⟨D, hp, hF, hbk, ho⟩ := IS.out
       obtain ⟨x, hx, hxm⟩ := SP.len hp HP.out (show k < P by omega)
       obtain ⟨y, hy, hym⟩ := SP.len hp HP.out (show q < P by omega)
       have c1 := blk_num hbk hx
       have c2 := blk_num hbk hy
       have z1 := frozen_of_row wr g k _ _ hbk
       have z2 := frozen_of_row wr g q _ _ hbk
       have y1 := hbk.lt
       have y2 := blk_put hbk k y
       have y3 := blk_put hbk q x
       have z3 := frozen_of_row _ g q _ _ y2
       have z4 := frozen_of_row _ g k _ _ y3
       obtain ⟨u3, c3⟩ := blk_some y2 (show q < (D.set k y).length by rw [List.length_set, hp.length_eq, HP.out]; omega)
       obtain ⟨u4, c4⟩ := blk_some y3 (show k < (D.set q x).length by rw [List.length_set, hp.length_eq, HP.out]; omega)
       have b8 : ((k : Nat) : Int) < (P : Int) := by omega
       have b9 : ((q : Nat) : Int) < (P : Int) := by omega
       have HSW := Lib.hid (show (fun D => upS (i0 - (k + 1)) (k + 1) D = T) (swp D k q) from by rw [← hq]; exact (by have h := upS_step hki hF; exact h))
       rw [hq] at HSW
       have HA := Lib.hid (SX.swap (F := fun D => upS (i0 - q) q D = T) hp HSW.out hbk ho hx hy)
       have HB := Lib.hid (SX.swap2 (F := fun D => upS (i0 - q) q D = T) hp HSW.out hbk ho hx hy)
       clear hx hy hxm hym hp hF hbk ho y2 y3 IS
       obtain ⟨wo, rfl⟩ : ∃ wo : World, wo = wr := ⟨_, rfl⟩
       go_wp2_with fail
       go_region
       all_goals
        go_wp2
        first
         | exact ⟨⟨q, by omega, by first | rfl | simp, Lib.hid (HA.out.drewN _)⟩, by simp [intOf]; omega⟩
         | exact ⟨⟨q, by omega, by first | rfl | simp, Lib.hid (HB.out.drewN _)⟩, by simp [intOf]; omega⟩
         | exact ⟨⟨q, by omega, by first | rfl | simp, Lib.hid (HA.out.drew)⟩, by simp [intOf]; omega⟩
         | exact ⟨⟨q, by omega, by first | rfl | simp, Lib.hid (HB.out.drew)⟩, by simp [intOf]; omega⟩
         | trace_state
      ·have b1 : decide ((k : Int) < (i0 : Int)) = false := by simp; omega
       have b1n : decide (k < i0) = false := by simp; omega
       go_wp2
       go_end0
       obtain ⟨D, hp, hF, hbk, ho⟩ := IS.out
       obtain rfl := upS_end hki hF
       exact ⟨rfl, hp, hbk, ho⟩
  ·have t1 : (((m - a : Nat) : Int) == 1) = false := by rw [beq_eq_false_iff_ne]; omega
   have t1n : ((m - a) == 1) = false := by rw [beq_eq_false_iff_ne]; omega
   by_cases e2 : b - m = 1
   ·have t2 : (((b - m : Nat) : Int) == 1) = true := by rw [e2]; rfl
    go_wp2
    obtain ⟨I, hI⟩ : ∃ I, bsV (fun h => !isLt K D0 m h) a m = I := ⟨_, rfl⟩
    have HI := Lib.hid hI
    have HTS := Lib.hid (show dnS I m D0 = T from by rw [← hI, ← HT0.out, symF_two e1 e2])
    clear hI
    go_loopw [14, 15] (fun iv jv wr => ∃ i j : Nat, a ≤ i ∧ i ≤ j ∧ j ≤ m ∧ iv = .int .i64 i ∧ jv = .int .i64 j ∧ Hid (Blk wr g 3 (i64s D0).toArray ∧ Only g w wr ∧ BSI (fun h => !isLt K D0 m h) I i j)) (fun iv jv _ => (intOf jv - intOf iv).toNat)
    case atStart => exact ⟨_, _, by omega, by omega, by omega, rfl, rfl, Lib.hid ⟨H0.out, Only.refl _ _, by rw [← HI.out]; exact BSI.start _ _ _⟩⟩
    case round =>
     clear H0
     obtain ⟨i, j, hi, hij, hj, rfl, rfl, IS⟩ := hrel
     by_cases hlt : i < j
     ·have b1 : decide ((i : Int) < j) = true := by simp; omega
      have b1n : decide (i < j) = true := by simp; omega
      obtain ⟨h, hh⟩ : ∃ h, (i + j) / 2 = h := ⟨_, rfl⟩
      have b2 : ((i : Int) + (j : Int)) / 2 = (h : Int) := by omega
      have hb1 : i ≤ h := by omega
      have hb2 : h < j := by omega
      skip
      obtain ⟨hbk, ho, hbs⟩ := IS.out
      obtain ⟨x, hx, hxm⟩ := SP.len (List.Perm.refl D0) HP.out (show m < P by omega)
      obtain ⟨y, hy, hym⟩ := SP.len (List.Perm.refl D0) HP.out (show h < P by omega)
      have HX := Lib.hid hx
      have HY := Lib.hid hy
      have HBK := Lib.hid hbk
      have HO := Lib.hid ho
      have HBS := Lib.hid hbs
      have c1 := blk_num hbk hx
      have c2 := blk_num hbk hy
      have y1 := hbk.lt
      have b3 : ((m : Nat) : Int) < (P : Int) := by omega
      have b4 : ((h : Nat) : Int) < (P : Int) := by omega
      have HC := Lib.hid (HK.out.at ho hxm hym)
      obtain ⟨v, hv⟩ : ∃ v, K x y = v := ⟨_, rfl⟩
      rw [hv] at HC
      have HV := Lib.hid hv
      clear hx hy hxm hym hbk ho hbs hv IS
      by_cases hv0 : v < 0
      ·have b5 : decide (v < 0) = true := by simpa using hv0
       have HT := Lib.hid (BSI.dn HBS.out hh hlt (by simp only [isLt_eq HX.out HY.out]; rw [HV.out]; simpa using hv0))
       clear hv0 hh
       go_wp2_with fail
       go_quiet ((go_at_call 32; exact HC.out _))
       go_wp2
       exact ⟨⟨i, h, by omega, by omega, by omega, rfl, rfl, Lib.hid ⟨HBK.out.drewN _, HO.out.drewN _, HT.out⟩⟩, by simp [intOf]; omega⟩
      ·have b5 : decide (v < 0) = false := by simpa using hv0
       have HT := Lib.hid (BSI.up HBS.out hh hlt (by simp only [isLt_eq HX.out HY.out]; rw [HV.out]; simpa using hv0))
       clear hv0 hh
       go_wp2_with fail
       go_quiet ((go_at_call 32; exact HC.out _))
       go_wp2
       exact ⟨⟨h + 1, j, by omega, by omega, by omega, by simp, rfl, Lib.hid ⟨HBK.out.drewN _, HO.out.drewN _, HT.out⟩⟩, by simp [intOf]; omega⟩
     ·have b1 : decide ((i : Int) < j) = false := by simp; omega
      have b1n : decide (i < j) = false := by simp; omega
      have hije : i = j := by omega
      subst hije
      obtain ⟨hbk, ho, hbs⟩ := IS.out
      have hiI := hbs.done
      subst hiI
      clear hbs
      have HTT := Lib.hid (show dnS i m D0 = T from HTS.out)
      go_wp2_with fail
      go_loopw [17] (fun kv wr => ∃ k : Nat, i ≤ k ∧ k ≤ m ∧ kv = .int .i64 k ∧ Hid (SX 3 w g D0 (fun D => dnS i k D = T) wr)) (fun kv _ => (intOf kv).toNat)
      case atStart => exact ⟨m, by omega, by omega, rfl, Lib.hid ⟨D0, .refl _, HTT.out, hbk, ho⟩⟩
      case round =>
       clear IS b1 b1n hbk ho
       obtain ⟨k, hk, hkm, rfl, IS⟩ := hrel
       by_cases hki : i < k
       ·have b1 : decide ((i : Int) < (k : Int)) = true := by simp; omega
        have b1n : decide (i < k) = true := by simp; omega
        obtain ⟨q, hq⟩ : ∃ q, k - 1 = q := ⟨_, rfl⟩
        have b7 : IntKind.i64.wrap ((k : Int) - 1) = (q : Int) := by rw [show (k : Int) - 1 = (q : Int) by omega]; exact IntWalk.i64_in _ (by omega)
        obtain ⟨D, hp, hF, hbk, ho⟩ := IS.out
        obtain ⟨x, hx, hxm⟩ := SP.len hp HP.out (show k < P by omega)
        obtain ⟨y, hy, hym⟩ := SP.len hp HP.out (show q < P by omega)
        have c1 := blk_num hbk hx
        have c2 := blk_num hbk hy
        have z1 := frozen_of_row wr g k _ _ hbk
        have z2 := frozen_of_row wr g q _ _ hbk
        have y1 := hbk.lt
        have y2 := blk_put hbk k y
        have y3 := blk_put hbk q x
        have z3 := frozen_of_row _ g q _ _ y2
        have z4 := frozen_of_row _ g k _ _ y3
        obtain ⟨u3, c3⟩ := blk_some y2 (show q < (D.set k y).length by rw [List.length_set, hp.length_eq, HP.out]; omega)
        obtain ⟨u4, c4⟩ := blk_some y3 (show k < (D.set q x).length by rw [List.length_set, hp.length_eq, HP.out]; omega)
        have b8 : ((k : Nat) : Int) < (P : Int) := by omega
        have b9 : ((q : Nat) : Int) < (P : Int) := by omega
        have HSW := Lib.hid (show (fun D => dnS i (k - 1) D = T) (swp D k q) from by rw [← hq]; exact (dnS_step hki hF))
        rw [hq] at HSW
        have HA := Lib.hid (SX.swap (F := fun D => dnS i q D = T) hp HSW.out hbk ho hx hy)
        have HB := Lib.hid (SX.swap2 (F := fun D => dnS i q D = T) hp HSW.out hbk ho hx hy)
        clear hx hy hxm hym hp hF hbk ho y2 y3 IS
        obtain ⟨wo, rfl⟩ : ∃ wo : World, wo = wr := ⟨_, rfl⟩
        go_wp2_with fail
        go_region
        all_goals
         go_wp2
         first
          | exact ⟨⟨q, by omega, by omega, by first | rfl | simp, Lib.hid (HA.out.drewN _)⟩, by simp [intOf]; omega⟩
          | exact ⟨⟨q, by omega, by omega, by first | rfl | simp, Lib.hid (HB.out.drewN _)⟩, by simp [intOf]; omega⟩
          | exact ⟨⟨q, by omega, by omega, by first | rfl | simp, Lib.hid (HA.out.drew)⟩, by simp [intOf]; omega⟩
          | exact ⟨⟨q, by omega, by omega, by first | rfl | simp, Lib.hid (HB.out.drew)⟩, by simp [intOf]; omega⟩
          | trace_state
       ·have b1 : decide ((i : Int) < (k : Int)) = false := by simp; omega
        have b1n : decide (i < k) = false := by simp; omega
        go_wp2
        go_end0
        obtain ⟨D, hp, hF, hbk, ho⟩ := IS.out
        obtain rfl := dnS_end hki hF
        exact ⟨rfl, hp, hbk, ho⟩
   ·have t2 : (((b - m : Nat) : Int) == 1) = false := by rw [beq_eq_false_iff_ne]; omega
    have t2n : ((b - m) == 1) = false := by rw [beq_eq_false_iff_ne]; omega
    obtain ⟨mid, hmid⟩ : ∃ mid, (a + b) / 2 = mid := ⟨_, rfl⟩
    obtain ⟨nn, hnn⟩ : ∃ nn, mid + m = nn := ⟨_, rfl⟩
    obtain ⟨p, hp⟩ : ∃ p, nn - 1 = p := ⟨_, rfl⟩
    have m1 : ((a : Int) + (b : Int)) / 2 = (mid : Int) := by omega
    have m2 : IntKind.i64.wrap ((mid : Int) + (m : Int)) = (nn : Int) := by rw [show (mid : Int) + (m : Int) = (nn : Int) by omega]; exact IntWalk.i64_in _ (by omega)
    have m3 : IntKind.i64.wrap ((nn : Int) - 1) = (p : Int) := by rw [show (nn : Int) - 1 = (p : Int) by omega]; exact IntWalk.i64_in _ (by omega)
    have m4 : a < mid := by omega
    have m5 : mid < b := by omega
    have m6 : a + b ≤ 2 * mid + 1 := by omega
    have m7 : 2 * mid ≤ a + b := by omega
    have HMID := Lib.hid hmid
    have HNN := Lib.hid hnn
    have HTS := Lib.hid HT0.out
    clear hmid
    by_cases e3 : mid < m
    ·have t3 : decide ((mid : Int) < (m : Int)) = true := by simp; omega
     have t3n : decide (mid < m) = true := by simp; omega
     obtain ⟨lo, hlo⟩ : ∃ lo, nn - b = lo := ⟨_, rfl⟩
     have m8 : IntKind.i64.wrap ((nn : Int) - (b : Int)) = (lo : Int) := by rw [show (nn : Int) - (b : Int) = (lo : Int) by omega]; exact IntWalk.i64_in _ (by omega)
     obtain ⟨I, hI⟩ : ∃ I, bsV (fun c => !isLt K D0 (nn - 1 - c) c) lo mid = I := ⟨_, rfl⟩
     have HI := Lib.hid hI
     have HIS := Lib.hid (show symS K a m b D0 = I from by
      unfold symS
      rw [HMID.out, HNN.out, if_pos e3, hlo]
      exact hI)
     clear hI
     go_wp2_with fail
     go_loopw [20, 21] (fun iv jv wr => ∃ i j : Nat, lo ≤ i ∧ i ≤ j ∧ j ≤ mid ∧ iv = .int .i64 i ∧ jv = .int .i64 j ∧ Hid (Blk wr g 3 (i64s D0).toArray ∧ Only g w wr ∧ BSI (fun c => !isLt K D0 (nn - 1 - c) c) I i j)) (fun iv jv _ => (intOf jv - intOf iv).toNat)
     case atStart => exact ⟨_, _, by omega, by omega, by omega, rfl, rfl, Lib.hid ⟨H0.out, Only.refl _ _, by rw [← HI.out]; exact BSI.start _ _ _⟩⟩
     case round =>
      clear H0
      obtain ⟨i, j, hi, hij, hj, rfl, rfl, IS⟩ := hrel
      by_cases hlt : i < j
      ·have b1 : decide ((i : Int) < j) = true := by simp; omega
       have b1n : decide (i < j) = true := by simp; omega
       obtain ⟨h, hh⟩ : ∃ h, (i + j) / 2 = h := ⟨_, rfl⟩
       have b2 : ((i : Int) + (j : Int)) / 2 = (h : Int) := by omega
       have hb1 : i ≤ h := by omega
       have hb2 : h < j := by omega
       obtain ⟨pc, hpc⟩ : ∃ pc, nn - 1 - h = pc := ⟨_, rfl⟩
       have b6 : IntKind.i64.wrap ((p : Int) - (h : Int)) = (pc : Int) := by rw [show (p : Int) - (h : Int) = (pc : Int) by omega]; exact IntWalk.i64_in _ (by omega)
       obtain ⟨hbk, ho, hbs⟩ := IS.out
       obtain ⟨x, hx, hxm⟩ := SP.len (List.Perm.refl D0) HP.out (show pc < P by omega)
       obtain ⟨y, hy, hym⟩ := SP.len (List.Perm.refl D0) HP.out (show h < P by omega)
       have HX := Lib.hid hx
       have HY := Lib.hid hy
       have HBK := Lib.hid hbk
       have HO := Lib.hid ho
       have HBS := Lib.hid hbs
       have c1 := blk_num hbk hx
       have c2 := blk_num hbk hy
       have y1 := hbk.lt
       have b3 : ((pc : Nat) : Int) < (P : Int) := by omega
       have b4 : ((h : Nat) : Int) < (P : Int) := by omega
       have HC := Lib.hid (HK.out.at ho hxm hym)
       obtain ⟨v, hv⟩ : ∃ v, K x y = v := ⟨_, rfl⟩
       rw [hv] at HC
       have HV := Lib.hid hv
       clear hx hy hxm hym hbk ho hbs hv IS
       by_cases hv0 : v < 0
       ·have b5 : decide (v < 0) = true := by simpa using hv0
        have HT := Lib.hid (BSI.dn HBS.out hh hlt (by simp only [hpc, isLt_eq HX.out HY.out]; rw [HV.out]; simpa using hv0))
        clear hv0 hh
        go_wp2_with fail
        go_quiet ((go_at_call 32; exact HC.out _))
        go_wp2
        exact ⟨⟨i, h, by omega, by omega, by omega, rfl, rfl, Lib.hid ⟨HBK.out.drewN _, HO.out.drewN _, HT.out⟩⟩, by simp [intOf]; omega⟩
       ·have b5 : decide (v < 0) = false := by simpa using hv0
        have HT := Lib.hid (BSI.up HBS.out hh hlt (by simp only [hpc, isLt_eq HX.out HY.out]; rw [HV.out]; simpa using hv0))
        clear hv0 hh
        go_wp2_with fail
        go_quiet ((go_at_call 32; exact HC.out _))
        go_wp2
        exact ⟨⟨h + 1, j, by omega, by omega, by omega, by simp, rfl, Lib.hid ⟨HBK.out.drewN _, HO.out.drewN _, HT.out⟩⟩, by simp [intOf]; omega⟩
      ·have b1 : decide ((i : Int) < j) = false := by simp; omega
       have b1n : decide (i < j) = false := by simp; omega
       have hije : i = j := by omega
       subst hije
       obtain ⟨hbk, ho, hbs⟩ := IS.out
       have hiI := hbs.done
       subst hiI
       clear hbs
       obtain ⟨en, hen⟩ : ∃ en, nn - i = en := ⟨_, rfl⟩
       have b6 : IntKind.i64.wrap ((nn : Int) - (i : Int)) = (en : Int) := by rw [show (nn : Int) - (i : Int) = (en : Int) by omega]; exact IntWalk.i64_in _ (by omega)
       have hr1 : i ≤ m := by omega
       have hr2 : i ≤ mid := by omega
       have hr3 : en ≤ b := by omega
       have hr4 : a ≤ i := by omega
       have hr5 : mid ≤ en := by omega
       have hr6 : m ≤ en := by omega
       have hgen := symF_gen (K := K) (f := sz) (D := D0) (b := b) (s := i) (mid := mid) (e := en) e1 e2 HIS.out HMID.out (by rw [HNN.out]; exact hen)
       have HS := Lib.hid (show SX 3 w g D0 (fun D => sym1 K sz a m i mid en b D = T) wr from ⟨D0, .refl _, by show sym1 K sz a m i mid en b D0 = T; rw [← hgen]; exact HTS.out, hbk, ho⟩)
       clear IS hbk ho hgen
       have IS := HS
       clear HS
       by_cases k1 : i < m
       ·have d1 : decide ((i : Int) < (m : Int)) = true := by simp; omega
        have d1n : decide (i < m) = true := by simp; omega
        by_cases k2 : m < en
        ·have d2 : decide ((m : Int) < (en : Int)) = true := by simp; omega
         have d2n : decide (m < en) = true := by simp; omega
         obtain ⟨D, hp, hF, hbk, ho⟩ := IS.out
         have HFF := Lib.hid hF
         have HPM := Lib.hid hp
         have HBK := Lib.hid hbk
         have HO := Lib.hid ho
         have HL := Lib.hid (hp.length_eq.trans HP.out)
         have HKD := Lib.hid (HK.out.on ho hp)
         clear hp hF hbk ho
         go_wp2_with fail
         (with_reducible refine (rot_x _ g P c i m en D _ HBK.out HL.out k1 k2 (by omega) hP2).mono ?_)
         rintro ex w3 ⟨rfl, hs⟩
         have HS := Lib.hid (show SX 3 w g D0 (fun D => sym2 K sz a i mid en b D = T) w3 from ⟨_, hs.1.trans HPM.out, (by have h := HFF.out; rw [sym1, if_pos ⟨k1, k2⟩] at h; exact h), hs.2.1, HO.out.trans hs.2.2⟩)
         clear hs HPM HBK HO HL HKD HFF IS
         have IS := HS
         clear HS d1 d1n d2 d2n k1 k2
         by_cases k1 : a < i
         ·have d1 : decide ((a : Int) < (i : Int)) = true := by simp; omega
          have d1n : decide (a < i) = true := by simp; omega
          by_cases k2 : i < mid
          ·have d2 : decide ((i : Int) < (mid : Int)) = true := by simp; omega
           have d2n : decide (i < mid) = true := by simp; omega
           obtain ⟨D, hp, hF, hbk, ho⟩ := IS.out
           have HFF := Lib.hid hF
           have HPM := Lib.hid hp
           have HBK := Lib.hid hbk
           have HO := Lib.hid ho
           have HL := Lib.hid (hp.length_eq.trans HP.out)
           have HKD := Lib.hid (HK.out.on ho hp)
           clear hp hF hbk ho
           go_wp2_with fail
           (with_reducible refine (IH.out a i mid D _ (by omega) HBK.out HL.out k1 k2 (by omega) HKD.out).mono ?_)
           rintro ex w3 ⟨rfl, hs⟩
           have HS := Lib.hid (show SX 3 w g D0 (fun D => sym3 K sz mid en b D = T) w3 from ⟨_, hs.1.trans HPM.out, (by have h := HFF.out; rw [sym2, if_pos ⟨k1, k2⟩] at h; exact h), hs.2.1, HO.out.trans hs.2.2⟩)
           clear hs HPM HBK HO HL HKD HFF IS
           have IS := HS
           clear HS d1 d1n d2 d2n k1 k2
           as_aux_lemma =>
            by_cases k1 : mid < en
            ·have d1 : decide ((mid : Int) < (en : Int)) = true := by simp; omega
             have d1n : decide (mid < en) = true := by simp; omega
             by_cases k2 : en < b
             ·have d2 : decide ((en : Int) < (b : Int)) = true := by simp; omega
              have d2n : decide (en < b) = true := by simp; omega
              obtain ⟨D, hp, hF, hbk, ho⟩ := IS.out
              have HFF := Lib.hid hF
              have HPM := Lib.hid hp
              have HBK := Lib.hid hbk
              have HO := Lib.hid ho
              have HL := Lib.hid (hp.length_eq.trans HP.out)
              have HKD := Lib.hid (HK.out.on ho hp)
              clear hp hF hbk ho
              go_wp2_with fail
              (with_reducible refine (IH.out mid en b D _ (by omega) HBK.out HL.out k1 k2 (by omega) HKD.out).mono ?_)
              rintro ex w3 ⟨rfl, hs⟩
              have HS := Lib.hid (show SX 3 w g D0 (fun D => D = T) w3 from ⟨_, hs.1.trans HPM.out, (by have h := HFF.out; rw [sym3, if_pos ⟨k1, k2⟩] at h; exact h), hs.2.1, HO.out.trans hs.2.2⟩)
              clear hs HPM HBK HO HL HKD HFF IS
              have IS := HS
              clear HS d1 d1n d2 d2n k1 k2
              go_wp2
              go_end0
              obtain ⟨D, hp, hF, hbk, ho⟩ := IS.out
              obtain rfl := hF
              exact ⟨rfl, hp, hbk, ho⟩
             ·have d2 : decide ((en : Int) < (b : Int)) = false := by simp; omega
              have d2n : decide (en < b) = false := by simp; omega
              have HS := Lib.hid (IS.out.imp (G := fun D => D = T) (fun D h => by rw [sym3, if_neg (fun hh => k2 hh.2)] at h; exact h))
              clear IS
              have IS := HS
              clear HS
              go_wp2
              go_end0
              obtain ⟨D, hp, hF, hbk, ho⟩ := IS.out
              obtain rfl := hF
              exact ⟨rfl, hp, hbk, ho⟩
            ·have d1 : decide ((mid : Int) < (en : Int)) = false := by simp; omega
             have d1n : decide (mid < en) = false := by simp; omega
             have HS := Lib.hid (IS.out.imp (G := fun D => D = T) (fun D h => by rw [sym3, if_neg (fun hh => k1 hh.1)] at h; exact h))
             clear IS
             have IS := HS
             clear HS
             go_wp2
             go_end0
             obtain ⟨D, hp, hF, hbk, ho⟩ := IS.out
             obtain rfl := hF
             exact ⟨rfl, hp, hbk, ho⟩
          ·have d2 : decide ((i : Int) < (mid : Int)) = false := by simp; omega
           have d2n : decide (i < mid) = false := by simp; omega
           have HS := Lib.hid (IS.out.imp (G := fun D => sym3 K sz mid en b D = T) (fun D h => by rw [sym2, if_neg (fun hh => k2 hh.2)] at h; exact h))
           clear IS
           have IS := HS
           clear HS
           as_aux_lemma =>
            by_cases k1 : mid < en
            ·have d1 : decide ((mid : Int) < (en : Int)) = true := by simp; omega
             have d1n : decide (mid < en) = true := by simp; omega
             by_cases k2 : en < b
             ·have d2 : decide ((en : Int) < (b : Int)) = true := by simp; omega
              have d2n : decide (en < b) = true := by simp; omega
              obtain ⟨D, hp, hF, hbk, ho⟩ := IS.out
              have HFF := Lib.hid hF
              have HPM := Lib.hid hp
              have HBK := Lib.hid hbk
              have HO := Lib.hid ho
              have HL := Lib.hid (hp.length_eq.trans HP.out)
              have HKD := Lib.hid (HK.out.on ho hp)
              clear hp hF hbk ho
              go_wp2_with fail
              (with_reducible refine (IH.out mid en b D _ (by omega) HBK.out HL.out k1 k2 (by omega) HKD.out).mono ?_)
              rintro ex w3 ⟨rfl, hs⟩
              have HS := Lib.hid (show SX 3 w g D0 (fun D => D = T) w3 from ⟨_, hs.1.trans HPM.out, (by have h := HFF.out; rw [sym3, if_pos ⟨k1, k2⟩] at h; exact h), hs.2.1, HO.out.trans hs.2.2⟩)
              clear hs HPM HBK HO HL HKD HFF IS
              have IS := HS
              clear HS d1 d1n d2 d2n k1 k2
              go_wp2
              go_end0
              obtain ⟨D, hp, hF, hbk, ho⟩ := IS.out
              obtain rfl := hF
              exact ⟨rfl, hp, hbk, ho⟩
             ·have d2 : decide ((en : Int) < (b : Int)) = false := by simp; omega
              have d2n : decide (en < b) = false := by simp; omega
              have HS := Lib.hid (IS.out.imp (G := fun D => D = T) (fun D h => by rw [sym3, if_neg (fun hh => k2 hh.2)] at h; exact h))
              clear IS
              have IS := HS
              clear HS
              go_wp2
              go_end0
              obtain ⟨D, hp, hF, hbk, ho⟩ := IS.out
              obtain rfl := hF
              exact ⟨rfl, hp, hbk, ho⟩
            ·have d1 : decide ((mid : Int) < (en : Int)) = false := by simp; omega
             have d1n : decide (mid < en) = false := by simp; omega
             have HS := Lib.hid (IS.out.imp (G := fun D => D = T) (fun D h => by rw [sym3, if_neg (fun hh => k1 hh.1)] at h; exact h))
             clear IS
             have IS := HS
             clear HS
             go_wp2
             go_end0
             obtain ⟨D, hp, hF, hbk, ho⟩ := IS.out
             obtain rfl := hF
             exact ⟨rfl, hp, hbk, ho⟩
         ·have d1 : decide ((a : Int) < (i : Int)) = false := by simp; omega
          have d1n : decide (a < i) = false := by simp; omega
          have HS := Lib.hid (IS.out.imp (G := fun D => sym3 K sz mid en b D = T) (fun D h => by rw [sym2, if_neg (fun hh => k1 hh.1)] at h; exact h))
          clear IS
          have IS := HS
          clear HS
          as_aux_lemma =>
           by_cases k1 : mid < en
           ·have d1 : decide ((mid : Int) < (en : Int)) = true := by simp; omega
            have d1n : decide (mid < en) = true := by simp; omega
            by_cases k2 : en < b
            ·have d2 : decide ((en : Int) < (b : Int)) = true := by simp; omega
             have d2n : decide (en < b) = true := by simp; omega
             obtain ⟨D, hp, hF, hbk, ho⟩ := IS.out
             have HFF := Lib.hid hF
             have HPM := Lib.hid hp
             have HBK := Lib.hid hbk
             have HO := Lib.hid ho
             have HL := Lib.hid (hp.length_eq.trans HP.out)
             have HKD := Lib.hid (HK.out.on ho hp)
             clear hp hF hbk ho
             go_wp2_with fail
             (with_reducible refine (IH.out mid en b D _ (by omega) HBK.out HL.out k1 k2 (by omega) HKD.out).mono ?_)
             rintro ex w3 ⟨rfl, hs⟩
             have HS := Lib.hid (show SX 3 w g D0 (fun D => D = T) w3 from ⟨_, hs.1.trans HPM.out, (by have h := HFF.out; rw [sym3, if_pos ⟨k1, k2⟩] at h; exact h), hs.2.1, HO.out.trans hs.2.2⟩)
             clear hs HPM HBK HO HL HKD HFF IS
             have IS := HS
             clear HS d1 d1n d2 d2n k1 k2
             go_wp2
             go_end0
             obtain ⟨D, hp, hF, hbk, ho⟩ := IS.out
             obtain rfl := hF
             exact ⟨rfl, hp, hbk, ho⟩
            ·have d2 : decide ((en : Int) < (b : Int)) = false := by simp; omega
             have d2n : decide (en < b) = false := by simp; omega
             have HS := Lib.hid (IS.out.imp (G := fun D => D = T) (fun D h => by rw [sym3, if_neg (fun hh => k2 hh.2)] at h; exact h))
             clear IS
             have IS := HS
             clear HS
             go_wp2
             go_end0
             obtain ⟨D, hp, hF, hbk, ho⟩ := IS.out
             obtain rfl := hF
             exact ⟨rfl, hp, hbk, ho⟩
           ·have d1 : decide ((mid : Int) < (en : Int)) = false := by simp; omega
            have d1n : decide (mid < en) = false := by simp; omega
            have HS := Lib.hid (IS.out.imp (G := fun D => D = T) (fun D h => by rw [sym3, if_neg (fun hh => k1 hh.1)] at h; exact h))
            clear IS
            have IS := HS
            clear HS
            go_wp2
            go_end0
            obtain ⟨D, hp, hF, hbk, ho⟩ := IS.out
            obtain rfl := hF
            exact ⟨rfl, hp, hbk, ho⟩
        ·have d2 : decide ((m : Int) < (en : Int)) = false := by simp; omega
         have d2n : decide (m < en) = false := by simp; omega
         have HS := Lib.hid (IS.out.imp (G := fun D => sym2 K sz a i mid en b D = T) (fun D h => by rw [sym1, if_neg (fun hh => k2 hh.2)] at h; exact h))
         clear IS
         have IS := HS
         clear HS
         by_cases k1 : a < i
         ·have d1 : decide ((a : Int) < (i : Int)) = true := by simp; omega
          have d1n : decide (a < i) = true := by simp; omega
          by_cases k2 : i < mid
          ·have d2 : decide ((i : Int) < (mid : Int)) = true := by simp; omega
           have d2n : decide (i < mid) = true := by simp; omega
           obtain ⟨D, hp, hF, hbk, ho⟩ := IS.out
           have HFF := Lib.hid hF
           have HPM := Lib.hid hp
           have HBK := Lib.hid hbk
           have HO := Lib.hid ho
           have HL := Lib.hid (hp.length_eq.trans HP.out)
           have HKD := Lib.hid (HK.out.on ho hp)
           clear hp hF hbk ho
           go_wp2_with fail
           (with_reducible refine (IH.out a i mid D _ (by omega) HBK.out HL.out k1 k2 (by omega) HKD.out).mono ?_)
           rintro ex w3 ⟨rfl, hs⟩
           have HS := Lib.hid (show SX 3 w g D0 (fun D => sym3 K sz mid en b D = T) w3 from ⟨_, hs.1.trans HPM.out, (by have h := HFF.out; rw [sym2, if_pos ⟨k1, k2⟩] at h; exact h), hs.2.1, HO.out.trans hs.2.2⟩)
           clear hs HPM HBK HO HL HKD HFF IS
           have IS := HS
           clear HS d1 d1n d2 d2n k1 k2
           as_aux_lemma =>
            by_cases k1 : mid < en
            ·have d1 : decide ((mid : Int) < (en : Int)) = true := by simp; omega
             have d1n : decide (mid < en) = true := by simp; omega
             by_cases k2 : en < b
             ·have d2 : decide ((en : Int) < (b : Int)) = true := by simp; omega
              have d2n : decide (en < b) = true := by simp; omega
              obtain ⟨D, hp, hF, hbk, ho⟩ := IS.out
              have HFF := Lib.hid hF
              have HPM := Lib.hid hp
              have HBK := Lib.hid hbk
              have HO := Lib.hid ho
              have HL := Lib.hid (hp.length_eq.trans HP.out)
              have HKD := Lib.hid (HK.out.on ho hp)
              clear hp hF hbk ho
              go_wp2_with fail
              (with_reducible refine (IH.out mid en b D _ (by omega) HBK.out HL.out k1 k2 (by omega) HKD.out).mono ?_)
              rintro ex w3 ⟨rfl, hs⟩
              have HS := Lib.hid (show SX 3 w g D0 (fun D => D = T) w3 from ⟨_, hs.1.trans HPM.out, (by have h := HFF.out; rw [sym3, if_pos ⟨k1, k2⟩] at h; exact h), hs.2.1, HO.out.trans hs.2.2⟩)
              clear hs HPM HBK HO HL HKD HFF IS
              have IS := HS
              clear HS d1 d1n d2 d2n k1 k2
              go_wp2
              go_end0
              obtain ⟨D, hp, hF, hbk, ho⟩ := IS.out
              obtain rfl := hF
              exact ⟨rfl, hp, hbk, ho⟩
             ·have d2 : decide ((en : Int) < (b : Int)) = false := by simp; omega
              have d2n : decide (en < b) = false := by simp; omega
              have HS := Lib.hid (IS.out.imp (G := fun D => D = T) (fun D h => by rw [sym3, if_neg (fun hh => k2 hh.2)] at h; exact h))
              clear IS
              have IS := HS
              clear HS
              go_wp2
              go_end0
              obtain ⟨D, hp, hF, hbk, ho⟩ := IS.out
              obtain rfl := hF
              exact ⟨rfl, hp, hbk, ho⟩
            ·have d1 : decide ((mid : Int) < (en : Int)) = false := by simp; omega
             have d1n : decide (mid < en) = false := by simp; omega
             have HS := Lib.hid (IS.out.imp (G := fun D => D = T) (fun D h => by rw [sym3, if_neg (fun hh => k1 hh.1)] at h; exact h))
             clear IS
             have IS := HS
             clear HS
             go_wp2
             go_end0
             obtain ⟨D, hp, hF, hbk, ho⟩ := IS.out
             obtain rfl := hF
             exact ⟨rfl, hp, hbk, ho⟩
          ·have d2 : decide ((i : Int) < (mid : Int)) = false := by simp; omega
           have d2n : decide (i < mid) = false := by simp; omega
           have HS := Lib.hid (IS.out.imp (G := fun D => sym3 K sz mid en b D = T) (fun D h => by rw [sym2, if_neg (fun hh => k2 hh.2)] at h; exact h))
           clear IS
           have IS := HS
           clear HS
           as_aux_lemma =>
            by_cases k1 : mid < en
            ·have d1 : decide ((mid : Int) < (en : Int)) = true := by simp; omega
             have d1n : decide (mid < en) = true := by simp; omega
             by_cases k2 : en < b
             ·have d2 : decide ((en : Int) < (b : Int)) = true := by simp; omega
              have d2n : decide (en < b) = true := by simp; omega
              obtain ⟨D, hp, hF, hbk, ho⟩ := IS.out
              have HFF := Lib.hid hF
              have HPM := Lib.hid hp
              have HBK := Lib.hid hbk
              have HO := Lib.hid ho
              have HL := Lib.hid (hp.length_eq.trans HP.out)
              have HKD := Lib.hid (HK.out.on ho hp)
              clear hp hF hbk ho
              go_wp2_with fail
              (with_reducible refine (IH.out mid en b D _ (by omega) HBK.out HL.out k1 k2 (by omega) HKD.out).mono ?_)
              rintro ex w3 ⟨rfl, hs⟩
              have HS := Lib.hid (show SX 3 w g D0 (fun D => D = T) w3 from ⟨_, hs.1.trans HPM.out, (by have h := HFF.out; rw [sym3, if_pos ⟨k1, k2⟩] at h; exact h), hs.2.1, HO.out.trans hs.2.2⟩)
              clear hs HPM HBK HO HL HKD HFF IS
              have IS := HS
              clear HS d1 d1n d2 d2n k1 k2
              go_wp2
              go_end0
              obtain ⟨D, hp, hF, hbk, ho⟩ := IS.out
              obtain rfl := hF
              exact ⟨rfl, hp, hbk, ho⟩
             ·have d2 : decide ((en : Int) < (b : Int)) = false := by simp; omega
              have d2n : decide (en < b) = false := by simp; omega
              have HS := Lib.hid (IS.out.imp (G := fun D => D = T) (fun D h => by rw [sym3, if_neg (fun hh => k2 hh.2)] at h; exact h))
              clear IS
              have IS := HS
              clear HS
              go_wp2
              go_end0
              obtain ⟨D, hp, hF, hbk, ho⟩ := IS.out
              obtain rfl := hF
              exact ⟨rfl, hp, hbk, ho⟩
            ·have d1 : decide ((mid : Int) < (en : Int)) = false := by simp; omega
             have d1n : decide (mid < en) = false := by simp; omega
             have HS := Lib.hid (IS.out.imp (G := fun D => D = T) (fun D h => by rw [sym3, if_neg (fun hh => k1 hh.1)] at h; exact h))
             clear IS
             have IS := HS
             clear HS
             go_wp2
             go_end0
             obtain ⟨D, hp, hF, hbk, ho⟩ := IS.out
             obtain rfl := hF
             exact ⟨rfl, hp, hbk, ho⟩
         ·have d1 : decide ((a : Int) < (i : Int)) = false := by simp; omega
          have d1n : decide (a < i) = false := by simp; omega
          have HS := Lib.hid (IS.out.imp (G := fun D => sym3 K sz mid en b D = T) (fun D h => by rw [sym2, if_neg (fun hh => k1 hh.1)] at h; exact h))
          clear IS
          have IS := HS
          clear HS
          as_aux_lemma =>
           by_cases k1 : mid < en
           ·have d1 : decide ((mid : Int) < (en : Int)) = true := by simp; omega
            have d1n : decide (mid < en) = true := by simp; omega
            by_cases k2 : en < b
            ·have d2 : decide ((en : Int) < (b : Int)) = true := by simp; omega
             have d2n : decide (en < b) = true := by simp; omega
             obtain ⟨D, hp, hF, hbk, ho⟩ := IS.out
             have HFF := Lib.hid hF
             have HPM := Lib.hid hp
             have HBK := Lib.hid hbk
             have HO := Lib.hid ho
             have HL := Lib.hid (hp.length_eq.trans HP.out)
             have HKD := Lib.hid (HK.out.on ho hp)
             clear hp hF hbk ho
             go_wp2_with fail
             (with_reducible refine (IH.out mid en b D _ (by omega) HBK.out HL.out k1 k2 (by omega) HKD.out).mono ?_)
             rintro ex w3 ⟨rfl, hs⟩
             have HS := Lib.hid (show SX 3 w g D0 (fun D => D = T) w3 from ⟨_, hs.1.trans HPM.out, (by have h := HFF.out; rw [sym3, if_pos ⟨k1, k2⟩] at h; exact h), hs.2.1, HO.out.trans hs.2.2⟩)
             clear hs HPM HBK HO HL HKD HFF IS
             have IS := HS
             clear HS d1 d1n d2 d2n k1 k2
             go_wp2
             go_end0
             obtain ⟨D, hp, hF, hbk, ho⟩ := IS.out
             obtain rfl := hF
             exact ⟨rfl, hp, hbk, ho⟩
            ·have d2 : decide ((en : Int) < (b : Int)) = false := by simp; omega
             have d2n : decide (en < b) = false := by simp; omega
             have HS := Lib.hid (IS.out.imp (G := fun D => D = T) (fun D h => by rw [sym3, if_neg (fun hh => k2 hh.2)] at h; exact h))
             clear IS
             have IS := HS
             clear HS
             go_wp2
             go_end0
             obtain ⟨D, hp, hF, hbk, ho⟩ := IS.out
             obtain rfl := hF
             exact ⟨rfl, hp, hbk, ho⟩
           ·have d1 : decide ((mid : Int) < (en : Int)) = false := by simp; omega
            have d1n : decide (mid < en) = false := by simp; omega
            have HS := Lib.hid (IS.out.imp (G := fun D => D = T) (fun D h => by rw [sym3, if_neg (fun hh => k1 hh.1)] at h; exact h))
            clear IS
            have IS := HS
            clear HS
            go_wp2
            go_end0
            obtain ⟨D, hp, hF, hbk, ho⟩ := IS.out
            obtain rfl := hF
            exact ⟨rfl, hp, hbk, ho⟩
       ·have d1 : decide ((i : Int) < (m : Int)) = false := by simp; omega
        have d1n : decide (i < m) = false := by simp; omega
        have HS := Lib.hid (IS.out.imp (G := fun D => sym2 K sz a i mid en b D = T) (fun D h => by rw [sym1, if_neg (fun hh => k1 hh.1)] at h; exact h))
        clear IS
        have IS := HS
        clear HS
        by_cases k1 : a < i
        ·have d1 : decide ((a : Int) < (i : Int)) = true := by simp; omega
         have d1n : decide (a < i) = true := by simp; omega
         by_cases k2 : i < mid
         ·have d2 : decide ((i : Int) < (mid : Int)) = true := by simp; omega
          have d2n : decide (i < mid) = true := by simp; omega
          obtain ⟨D, hp, hF, hbk, ho⟩ := IS.out
          have HFF := Lib.hid hF
          have HPM := Lib.hid hp
          have HBK := Lib.hid hbk
          have HO := Lib.hid ho
          have HL := Lib.hid (hp.length_eq.trans HP.out)
          have HKD := Lib.hid (HK.out.on ho hp)
          clear hp hF hbk ho
          go_wp2_with fail
          (with_reducible refine (IH.out a i mid D _ (by omega) HBK.out HL.out k1 k2 (by omega) HKD.out).mono ?_)
          rintro ex w3 ⟨rfl, hs⟩
          have HS := Lib.hid (show SX 3 w g D0 (fun D => sym3 K sz mid en b D = T) w3 from ⟨_, hs.1.trans HPM.out, (by have h := HFF.out; rw [sym2, if_pos ⟨k1, k2⟩] at h; exact h), hs.2.1, HO.out.trans hs.2.2⟩)
          clear hs HPM HBK HO HL HKD HFF IS
          have IS := HS
          clear HS d1 d1n d2 d2n k1 k2
          as_aux_lemma =>
           by_cases k1 : mid < en
           ·have d1 : decide ((mid : Int) < (en : Int)) = true := by simp; omega
            have d1n : decide (mid < en) = true := by simp; omega
            by_cases k2 : en < b
            ·have d2 : decide ((en : Int) < (b : Int)) = true := by simp; omega
             have d2n : decide (en < b) = true := by simp; omega
             obtain ⟨D, hp, hF, hbk, ho⟩ := IS.out
             have HFF := Lib.hid hF
             have HPM := Lib.hid hp
             have HBK := Lib.hid hbk
             have HO := Lib.hid ho
             have HL := Lib.hid (hp.length_eq.trans HP.out)
             have HKD := Lib.hid (HK.out.on ho hp)
             clear hp hF hbk ho
             go_wp2_with fail
             (with_reducible refine (IH.out mid en b D _ (by omega) HBK.out HL.out k1 k2 (by omega) HKD.out).mono ?_)
             rintro ex w3 ⟨rfl, hs⟩
             have HS := Lib.hid (show SX 3 w g D0 (fun D => D = T) w3 from ⟨_, hs.1.trans HPM.out, (by have h := HFF.out; rw [sym3, if_pos ⟨k1, k2⟩] at h; exact h), hs.2.1, HO.out.trans hs.2.2⟩)
             clear hs HPM HBK HO HL HKD HFF IS
             have IS := HS
             clear HS d1 d1n d2 d2n k1 k2
             go_wp2
             go_end0
             obtain ⟨D, hp, hF, hbk, ho⟩ := IS.out
             obtain rfl := hF
             exact ⟨rfl, hp, hbk, ho⟩
            ·have d2 : decide ((en : Int) < (b : Int)) = false := by simp; omega
             have d2n : decide (en < b) = false := by simp; omega
             have HS := Lib.hid (IS.out.imp (G := fun D => D = T) (fun D h => by rw [sym3, if_neg (fun hh => k2 hh.2)] at h; exact h))
             clear IS
             have IS := HS
             clear HS
             go_wp2
             go_end0
             obtain ⟨D, hp, hF, hbk, ho⟩ := IS.out
             obtain rfl := hF
             exact ⟨rfl, hp, hbk, ho⟩
           ·have d1 : decide ((mid : Int) < (en : Int)) = false := by simp; omega
            have d1n : decide (mid < en) = false := by simp; omega
            have HS := Lib.hid (IS.out.imp (G := fun D => D = T) (fun D h => by rw [sym3, if_neg (fun hh => k1 hh.1)] at h; exact h))
            clear IS
            have IS := HS
            clear HS
            go_wp2
            go_end0
            obtain ⟨D, hp, hF, hbk, ho⟩ := IS.out
            obtain rfl := hF
            exact ⟨rfl, hp, hbk, ho⟩
         ·have d2 : decide ((i : Int) < (mid : Int)) = false := by simp; omega
          have d2n : decide (i < mid) = false := by simp; omega
          have HS := Lib.hid (IS.out.imp (G := fun D => sym3 K sz mid en b D = T) (fun D h => by rw [sym2, if_neg (fun hh => k2 hh.2)] at h; exact h))
          clear IS
          have IS := HS
          clear HS
          as_aux_lemma =>
           by_cases k1 : mid < en
           ·have d1 : decide ((mid : Int) < (en : Int)) = true := by simp; omega
            have d1n : decide (mid < en) = true := by simp; omega
            by_cases k2 : en < b
            ·have d2 : decide ((en : Int) < (b : Int)) = true := by simp; omega
             have d2n : decide (en < b) = true := by simp; omega
             obtain ⟨D, hp, hF, hbk, ho⟩ := IS.out
             have HFF := Lib.hid hF
             have HPM := Lib.hid hp
             have HBK := Lib.hid hbk
             have HO := Lib.hid ho
             have HL := Lib.hid (hp.length_eq.trans HP.out)
             have HKD := Lib.hid (HK.out.on ho hp)
             clear hp hF hbk ho
             go_wp2_with fail
             (with_reducible refine (IH.out mid en b D _ (by omega) HBK.out HL.out k1 k2 (by omega) HKD.out).mono ?_)
             rintro ex w3 ⟨rfl, hs⟩
             have HS := Lib.hid (show SX 3 w g D0 (fun D => D = T) w3 from ⟨_, hs.1.trans HPM.out, (by have h := HFF.out; rw [sym3, if_pos ⟨k1, k2⟩] at h; exact h), hs.2.1, HO.out.trans hs.2.2⟩)
             clear hs HPM HBK HO HL HKD HFF IS
             have IS := HS
             clear HS d1 d1n d2 d2n k1 k2
             go_wp2
             go_end0
             obtain ⟨D, hp, hF, hbk, ho⟩ := IS.out
             obtain rfl := hF
             exact ⟨rfl, hp, hbk, ho⟩
            ·have d2 : decide ((en : Int) < (b : Int)) = false := by simp; omega
             have d2n : decide (en < b) = false := by simp; omega
             have HS := Lib.hid (IS.out.imp (G := fun D => D = T) (fun D h => by rw [sym3, if_neg (fun hh => k2 hh.2)] at h; exact h))
             clear IS
             have IS := HS
             clear HS
             go_wp2
             go_end0
             obtain ⟨D, hp, hF, hbk, ho⟩ := IS.out
             obtain rfl := hF
             exact ⟨rfl, hp, hbk, ho⟩
           ·have d1 : decide ((mid : Int) < (en : Int)) = false := by simp; omega
            have d1n : decide (mid < en) = false := by simp; omega
            have HS := Lib.hid (IS.out.imp (G := fun D => D = T) (fun D h => by rw [sym3, if_neg (fun hh => k1 hh.1)] at h; exact h))
            clear IS
            have IS := HS
            clear HS
            go_wp2
            go_end0
            obtain ⟨D, hp, hF, hbk, ho⟩ := IS.out
            obtain rfl := hF
            exact ⟨rfl, hp, hbk, ho⟩
        ·have d1 : decide ((a : Int) < (i : Int)) = false := by simp; omega
         have d1n : decide (a < i) = false := by simp; omega
         have HS := Lib.hid (IS.out.imp (G := fun D => sym3 K sz mid en b D = T) (fun D h => by rw [sym2, if_neg (fun hh => k1 hh.1)] at h; exact h))
         clear IS
         have IS := HS
         clear HS
         as_aux_lemma =>
          by_cases k1 : mid < en
          ·have d1 : decide ((mid : Int) < (en : Int)) = true := by simp; omega
           have d1n : decide (mid < en) = true := by simp; omega
           by_cases k2 : en < b
           ·have d2 : decide ((en : Int) < (b : Int)) = true := by simp; omega
            have d2n : decide (en < b) = true := by simp; omega
            obtain ⟨D, hp, hF, hbk, ho⟩ := IS.out
            have HFF := Lib.hid hF
            have HPM := Lib.hid hp
            have HBK := Lib.hid hbk
            have HO := Lib.hid ho
            have HL := Lib.hid (hp.length_eq.trans HP.out)
            have HKD := Lib.hid (HK.out.on ho hp)
            clear hp hF hbk ho
            go_wp2_with fail
            (with_reducible refine (IH.out mid en b D _ (by omega) HBK.out HL.out k1 k2 (by omega) HKD.out).mono ?_)
            rintro ex w3 ⟨rfl, hs⟩
            have HS := Lib.hid (show SX 3 w g D0 (fun D => D = T) w3 from ⟨_, hs.1.trans HPM.out, (by have h := HFF.out; rw [sym3, if_pos ⟨k1, k2⟩] at h; exact h), hs.2.1, HO.out.trans hs.2.2⟩)
            clear hs HPM HBK HO HL HKD HFF IS
            have IS := HS
            clear HS d1 d1n d2 d2n k1 k2
            go_wp2
            go_end0
            obtain ⟨D, hp, hF, hbk, ho⟩ := IS.out
            obtain rfl := hF
            exact ⟨rfl, hp, hbk, ho⟩
           ·have d2 : decide ((en : Int) < (b : Int)) = false := by simp; omega
            have d2n : decide (en < b) = false := by simp; omega
            have HS := Lib.hid (IS.out.imp (G := fun D => D = T) (fun D h => by rw [sym3, if_neg (fun hh => k2 hh.2)] at h; exact h))
            clear IS
            have IS := HS
            clear HS
            go_wp2
            go_end0
            obtain ⟨D, hp, hF, hbk, ho⟩ := IS.out
            obtain rfl := hF
            exact ⟨rfl, hp, hbk, ho⟩
          ·have d1 : decide ((mid : Int) < (en : Int)) = false := by simp; omega
           have d1n : decide (mid < en) = false := by simp; omega
           have HS := Lib.hid (IS.out.imp (G := fun D => D = T) (fun D h => by rw [sym3, if_neg (fun hh => k1 hh.1)] at h; exact h))
           clear IS
           have IS := HS
           clear HS
           go_wp2
           go_end0
           obtain ⟨D, hp, hF, hbk, ho⟩ := IS.out
           obtain rfl := hF
           exact ⟨rfl, hp, hbk, ho⟩
    ·have t3 : decide ((mid : Int) < (m : Int)) = false := by simp; omega
     have t3n : decide (mid < m) = false := by simp; omega
     obtain ⟨I, hI⟩ : ∃ I, bsV (fun c => !isLt K D0 (nn - 1 - c) c) a m = I := ⟨_, rfl⟩
     have HI := Lib.hid hI
     have HIS := Lib.hid (show symS K a m b D0 = I from by
      unfold symS
      rw [HMID.out, HNN.out, if_neg e3]
      exact hI)
     clear hI
     go_wp2_with fail
     go_loopw [20, 21] (fun iv jv wr => ∃ i j : Nat, a ≤ i ∧ i ≤ j ∧ j ≤ m ∧ iv = .int .i64 i ∧ jv = .int .i64 j ∧ Hid (Blk wr g 3 (i64s D0).toArray ∧ Only g w wr ∧ BSI (fun c => !isLt K D0 (nn - 1 - c) c) I i j)) (fun iv jv _ => (intOf jv - intOf iv).toNat)
     case atStart => exact ⟨_, _, by omega, by omega, by omega, rfl, rfl, Lib.hid ⟨H0.out, Only.refl _ _, by rw [← HI.out]; exact BSI.start _ _ _⟩⟩
     case round =>
      clear H0
      obtain ⟨i, j, hi, hij, hj, rfl, rfl, IS⟩ := hrel
      by_cases hlt : i < j
      ·have b1 : decide ((i : Int) < j) = true := by simp; omega
       have b1n : decide (i < j) = true := by simp; omega
       obtain ⟨h, hh⟩ : ∃ h, (i + j) / 2 = h := ⟨_, rfl⟩
       have b2 : ((i : Int) + (j : Int)) / 2 = (h : Int) := by omega
       have hb1 : i ≤ h := by omega
       have hb2 : h < j := by omega
       obtain ⟨pc, hpc⟩ : ∃ pc, nn - 1 - h = pc := ⟨_, rfl⟩
       have b6 : IntKind.i64.wrap ((p : Int) - (h : Int)) = (pc : Int) := by rw [show (p : Int) - (h : Int) = (pc : Int) by omega]; exact IntWalk.i64_in _ (by omega)
       obtain ⟨hbk, ho, hbs⟩ := IS.out
       obtain ⟨x, hx, hxm⟩ := SP.len (List.Perm.refl D0) HP.out (show pc < P by omega)
       obtain ⟨y, hy, hym⟩ := SP.len (List.Perm.refl D0) HP.out (show h < P by omega)
       have HX := Lib.hid hx
       have HY := Lib.hid hy
       have HBK := Lib.hid hbk
       have HO := Lib.hid ho
       have HBS := Lib.hid hbs
       have c1 := blk_num hbk hx
       have c2 := blk_num hbk hy
       have y1 := hbk.lt
       have b3 : ((pc : Nat) : Int) < (P : Int) := by omega
       have b4 : ((h : Nat) : Int) < (P : Int) := by omega
       have HC := Lib.hid (HK.out.at ho hxm hym)
       obtain ⟨v, hv⟩ : ∃ v, K x y = v := ⟨_, rfl⟩
       rw [hv] at HC
       have HV := Lib.hid hv
       clear hx hy hxm hym hbk ho hbs hv IS
       by_cases hv0 : v < 0
       ·have b5 : decide (v < 0) = true := by simpa using hv0
        have HT := Lib.hid (BSI.dn HBS.out hh hlt (by simp only [hpc, isLt_eq HX.out HY.out]; rw [HV.out]; simpa using hv0))
        clear hv0 hh
        go_wp2_with fail
        go_quiet ((go_at_call 32; exact HC.out _))
        go_wp2
        exact ⟨⟨i, h, by omega, by omega, by omega, rfl, rfl, Lib.hid ⟨HBK.out.drewN _, HO.out.drewN _, HT.out⟩⟩, by simp [intOf]; omega⟩
       ·have b5 : decide (v < 0) = false := by simpa using hv0
        have HT := Lib.hid (BSI.up HBS.out hh hlt (by simp only [hpc, isLt_eq HX.out HY.out]; rw [HV.out]; simpa using hv0))
        clear hv0 hh
        go_wp2_with fail
        go_quiet ((go_at_call 32; exact HC.out _))
        go_wp2
        exact ⟨⟨h + 1, j, by omega, by omega, by omega, by simp, rfl, Lib.hid ⟨HBK.out.drewN _, HO.out.drewN _, HT.out⟩⟩, by simp [intOf]; omega⟩
      ·have b1 : decide ((i : Int) < j) = false := by simp; omega
       have b1n : decide (i < j) = false := by simp; omega
       have hije : i = j := by omega
       subst hije
       obtain ⟨hbk, ho, hbs⟩ := IS.out
       have hiI := hbs.done
       subst hiI
       clear hbs
       obtain ⟨en, hen⟩ : ∃ en, nn - i = en := ⟨_, rfl⟩
       have b6 : IntKind.i64.wrap ((nn : Int) - (i : Int)) = (en : Int) := by rw [show (nn : Int) - (i : Int) = (en : Int) by omega]; exact IntWalk.i64_in _ (by omega)
       have hr1 : i ≤ m := by omega
       have hr2 : i ≤ mid := by omega
       have hr3 : en ≤ b := by omega
       have hr4 : a ≤ i := by omega
       have hr5 : mid ≤ en := by omega
       have hr6 : m ≤ en := by omega
       have hgen := symF_gen (K := K) (f := sz) (D := D0) (b := b) (s := i) (mid := mid) (e := en) e1 e2 HIS.out HMID.out (by rw [HNN.out]; exact hen)
       have HS := Lib.hid (show SX 3 w g D0 (fun D => sym1 K sz a m i mid en b D = T) wr from ⟨D0, .refl _, by show sym1 K sz a m i mid en b D0 = T; rw [← hgen]; exact HTS.out, hbk, ho⟩)
       clear IS hbk ho hgen
       have IS := HS
       clear HS
       by_cases k1 : i < m
       ·have d1 : decide ((i : Int) < (m : Int)) = true := by simp; omega
        have d1n : decide (i < m) = true := by simp; omega
        by_cases k2 : m < en
        ·have d2 : decide ((m : Int) < (en : Int)) = true := by simp; omega
         have d2n : decide (m < en) = true := by simp; omega
         obtain ⟨D, hp, hF, hbk, ho⟩ := IS.out
         have HFF := Lib.hid hF
         have HPM := Lib.hid hp
         have HBK := Lib.hid hbk
         have HO := Lib.hid ho
         have HL := Lib.hid (hp.length_eq.trans HP.out)
         have HKD := Lib.hid (HK.out.on ho hp)
         clear hp hF hbk ho
         go_wp2_with fail
         (with_reducible refine (rot_x _ g P c i m en D _ HBK.out HL.out k1 k2 (by omega) hP2).mono ?_)
         rintro ex w3 ⟨rfl, hs⟩
         have HS := Lib.hid (show SX 3 w g D0 (fun D => sym2 K sz a i mid en b D = T) w3 from ⟨_, hs.1.trans HPM.out, (by have h := HFF.out; rw [sym1, if_pos ⟨k1, k2⟩] at h; exact h), hs.2.1, HO.out.trans hs.2.2⟩)
         clear hs HPM HBK HO HL HKD HFF IS
         have IS := HS
         clear HS d1 d1n d2 d2n k1 k2
         by_cases k1 : a < i
         ·have d1 : decide ((a : Int) < (i : Int)) = true := by simp; omega
          have d1n : decide (a < i) = true := by simp; omega
          by_cases k2 : i < mid
          ·have d2 : decide ((i : Int) < (mid : Int)) = true := by simp; omega
           have d2n : decide (i < mid) = true := by simp; omega
           obtain ⟨D, hp, hF, hbk, ho⟩ := IS.out
           have HFF := Lib.hid hF
           have HPM := Lib.hid hp
           have HBK := Lib.hid hbk
           have HO := Lib.hid ho
           have HL := Lib.hid (hp.length_eq.trans HP.out)
           have HKD := Lib.hid (HK.out.on ho hp)
           clear hp hF hbk ho
           go_wp2_with fail
           (with_reducible refine (IH.out a i mid D _ (by omega) HBK.out HL.out k1 k2 (by omega) HKD.out).mono ?_)
           rintro ex w3 ⟨rfl, hs⟩
           have HS := Lib.hid (show SX 3 w g D0 (fun D => sym3 K sz mid en b D = T) w3 from ⟨_, hs.1.trans HPM.out, (by have h := HFF.out; rw [sym2, if_pos ⟨k1, k2⟩] at h; exact h), hs.2.1, HO.out.trans hs.2.2⟩)
           clear hs HPM HBK HO HL HKD HFF IS
           have IS := HS
           clear HS d1 d1n d2 d2n k1 k2
           as_aux_lemma =>
            by_cases k1 : mid < en
            ·have d1 : decide ((mid : Int) < (en : Int)) = true := by simp; omega
             have d1n : decide (mid < en) = true := by simp; omega
             by_cases k2 : en < b
             ·have d2 : decide ((en : Int) < (b : Int)) = true := by simp; omega
              have d2n : decide (en < b) = true := by simp; omega
              obtain ⟨D, hp, hF, hbk, ho⟩ := IS.out
              have HFF := Lib.hid hF
              have HPM := Lib.hid hp
              have HBK := Lib.hid hbk
              have HO := Lib.hid ho
              have HL := Lib.hid (hp.length_eq.trans HP.out)
              have HKD := Lib.hid (HK.out.on ho hp)
              clear hp hF hbk ho
              go_wp2_with fail
              (with_reducible refine (IH.out mid en b D _ (by omega) HBK.out HL.out k1 k2 (by omega) HKD.out).mono ?_)
              rintro ex w3 ⟨rfl, hs⟩
              have HS := Lib.hid (show SX 3 w g D0 (fun D => D = T) w3 from ⟨_, hs.1.trans HPM.out, (by have h := HFF.out; rw [sym3, if_pos ⟨k1, k2⟩] at h; exact h), hs.2.1, HO.out.trans hs.2.2⟩)
              clear hs HPM HBK HO HL HKD HFF IS
              have IS := HS
              clear HS d1 d1n d2 d2n k1 k2
              go_wp2
              go_end0
              obtain ⟨D, hp, hF, hbk, ho⟩ := IS.out
              obtain rfl := hF
              exact ⟨rfl, hp, hbk, ho⟩
             ·have d2 : decide ((en : Int) < (b : Int)) = false := by simp; omega
              have d2n : decide (en < b) = false := by simp; omega
              have HS := Lib.hid (IS.out.imp (G := fun D => D = T) (fun D h => by rw [sym3, if_neg (fun hh => k2 hh.2)] at h; exact h))
              clear IS
              have IS := HS
              clear HS
              go_wp2
              go_end0
              obtain ⟨D, hp, hF, hbk, ho⟩ := IS.out
              obtain rfl := hF
              exact ⟨rfl, hp, hbk, ho⟩
            ·have d1 : decide ((mid : Int) < (en : Int)) = false := by simp; omega
             have d1n : decide (mid < en) = false := by simp; omega
             have HS := Lib.hid (IS.out.imp (G := fun D => D = T) (fun D h => by rw [sym3, if_neg (fun hh => k1 hh.1)] at h; exact h))
             clear IS
             have IS := HS
             clear HS
             go_wp2
             go_end0
             obtain ⟨D, hp, hF, hbk, ho⟩ := IS.out
             obtain rfl := hF
             exact ⟨rfl, hp, hbk, ho⟩
          ·have d2 : decide ((i : Int) < (mid : Int)) = false := by simp; omega
           have d2n : decide (i < mid) = false := by simp; omega
           have HS := Lib.hid (IS.out.imp (G := fun D => sym3 K sz mid en b D = T) (fun D h => by rw [sym2, if_neg (fun hh => k2 hh.2)] at h; exact h))
           clear IS
           have IS := HS
           clear HS
           as_aux_lemma =>
            by_cases k1 : mid < en
            ·have d1 : decide ((mid : Int) < (en : Int)) = true := by simp; omega
             have d1n : decide (mid < en) = true := by simp; omega
             by_cases k2 : en < b
             ·have d2 : decide ((en : Int) < (b : Int)) = true := by simp; omega
              have d2n : decide (en < b) = true := by simp; omega
              obtain ⟨D, hp, hF, hbk, ho⟩ := IS.out
              have HFF := Lib.hid hF
              have HPM := Lib.hid hp
              have HBK := Lib.hid hbk
              have HO := Lib.hid ho
              have HL := Lib.hid (hp.length_eq.trans HP.out)
              have HKD := Lib.hid (HK.out.on ho hp)
              clear hp hF hbk ho
              go_wp2_with fail
              (with_reducible refine (IH.out mid en b D _ (by omega) HBK.out HL.out k1 k2 (by omega) HKD.out).mono ?_)
              rintro ex w3 ⟨rfl, hs⟩
              have HS := Lib.hid (show SX 3 w g D0 (fun D => D = T) w3 from ⟨_, hs.1.trans HPM.out, (by have h := HFF.out; rw [sym3, if_pos ⟨k1, k2⟩] at h; exact h), hs.2.1, HO.out.trans hs.2.2⟩)
              clear hs HPM HBK HO HL HKD HFF IS
              have IS := HS
              clear HS d1 d1n d2 d2n k1 k2
              go_wp2
              go_end0
              obtain ⟨D, hp, hF, hbk, ho⟩ := IS.out
              obtain rfl := hF
              exact ⟨rfl, hp, hbk, ho⟩
             ·have d2 : decide ((en : Int) < (b : Int)) = false := by simp; omega
              have d2n : decide (en < b) = false := by simp; omega
              have HS := Lib.hid (IS.out.imp (G := fun D => D = T) (fun D h => by rw [sym3, if_neg (fun hh => k2 hh.2)] at h; exact h))
              clear IS
              have IS := HS
              clear HS
              go_wp2
              go_end0
              obtain ⟨D, hp, hF, hbk, ho⟩ := IS.out
              obtain rfl := hF
              exact ⟨rfl, hp, hbk, ho⟩
            ·have d1 : decide ((mid : Int) < (en : Int)) = false := by simp; omega
             have d1n : decide (mid < en) = false := by simp; omega
             have HS := Lib.hid (IS.out.imp (G := fun D => D = T) (fun D h => by rw [sym3, if_neg (fun hh => k1 hh.1)] at h; exact h))
             clear IS
             have IS := HS
             clear HS
             go_wp2
             go_end0
             obtain ⟨D, hp, hF, hbk, ho⟩ := IS.out
             obtain rfl := hF
             exact ⟨rfl, hp, hbk, ho⟩
         ·have d1 : decide ((a : Int) < (i : Int)) = false := by simp; omega
          have d1n : decide (a < i) = false := by simp; omega
          have HS := Lib.hid (IS.out.imp (G := fun D => sym3 K sz mid en b D = T) (fun D h => by rw [sym2, if_neg (fun hh => k1 hh.1)] at h; exact h))
          clear IS
          have IS := HS
          clear HS
          as_aux_lemma =>
           by_cases k1 : mid < en
           ·have d1 : decide ((mid : Int) < (en : Int)) = true := by simp; omega
            have d1n : decide (mid < en) = true := by simp; omega
            by_cases k2 : en < b
            ·have d2 : decide ((en : Int) < (b : Int)) = true := by simp; omega
             have d2n : decide (en < b) = true := by simp; omega
             obtain ⟨D, hp, hF, hbk, ho⟩ := IS.out
             have HFF := Lib.hid hF
             have HPM := Lib.hid hp
             have HBK := Lib.hid hbk
             have HO := Lib.hid ho
             have HL := Lib.hid (hp.length_eq.trans HP.out)
             have HKD := Lib.hid (HK.out.on ho hp)
             clear hp hF hbk ho
             go_wp2_with fail
             (with_reducible refine (IH.out mid en b D _ (by omega) HBK.out HL.out k1 k2 (by omega) HKD.out).mono ?_)
             rintro ex w3 ⟨rfl, hs⟩
             have HS := Lib.hid (show SX 3 w g D0 (fun D => D = T) w3 from ⟨_, hs.1.trans HPM.out, (by have h := HFF.out; rw [sym3, if_pos ⟨k1, k2⟩] at h; exact h), hs.2.1, HO.out.trans hs.2.2⟩)
             clear hs HPM HBK HO HL HKD HFF IS
             have IS := HS
             clear HS d1 d1n d2 d2n k1 k2
             go_wp2
             go_end0
             obtain ⟨D, hp, hF, hbk, ho⟩ := IS.out
             obtain rfl := hF
             exact ⟨rfl, hp, hbk, ho⟩
            ·have d2 : decide ((en : Int) < (b : Int)) = false := by simp; omega
             have d2n : decide (en < b) = false := by simp; omega
             have HS := Lib.hid (IS.out.imp (G := fun D => D = T) (fun D h => by rw [sym3, if_neg (fun hh => k2 hh.2)] at h; exact h))
             clear IS
             have IS := HS
             clear HS
             go_wp2
             go_end0
             obtain ⟨D, hp, hF, hbk, ho⟩ := IS.out
             obtain rfl := hF
             exact ⟨rfl, hp, hbk, ho⟩
           ·have d1 : decide ((mid : Int) < (en : Int)) = false := by simp; omega
            have d1n : decide (mid < en) = false := by simp; omega
            have HS := Lib.hid (IS.out.imp (G := fun D => D = T) (fun D h => by rw [sym3, if_neg (fun hh => k1 hh.1)] at h; exact h))
            clear IS
            have IS := HS
            clear HS
            go_wp2
            go_end0
            obtain ⟨D, hp, hF, hbk, ho⟩ := IS.out
            obtain rfl := hF
            exact ⟨rfl, hp, hbk, ho⟩
        ·have d2 : decide ((m : Int) < (en : Int)) = false := by simp; omega
         have d2n : decide (m < en) = false := by simp; omega
         have HS := Lib.hid (IS.out.imp (G := fun D => sym2 K sz a i mid en b D = T) (fun D h => by rw [sym1, if_neg (fun hh => k2 hh.2)] at h; exact h))
         clear IS
         have IS := HS
         clear HS
         by_cases k1 : a < i
         ·have d1 : decide ((a : Int) < (i : Int)) = true := by simp; omega
          have d1n : decide (a < i) = true := by simp; omega
          by_cases k2 : i < mid
          ·have d2 : decide ((i : Int) < (mid : Int)) = true := by simp; omega
           have d2n : decide (i < mid) = true := by simp; omega
           obtain ⟨D, hp, hF, hbk, ho⟩ := IS.out
           have HFF := Lib.hid hF
           have HPM := Lib.hid hp
           have HBK := Lib.hid hbk
           have HO := Lib.hid ho
           have HL := Lib.hid (hp.length_eq.trans HP.out)
           have HKD := Lib.hid (HK.out.on ho hp)
           clear hp hF hbk ho
           go_wp2_with fail
           (with_reducible refine (IH.out a i mid D _ (by omega) HBK.out HL.out k1 k2 (by omega) HKD.out).mono ?_)
           rintro ex w3 ⟨rfl, hs⟩
           have HS := Lib.hid (show SX 3 w g D0 (fun D => sym3 K sz mid en b D = T) w3 from ⟨_, hs.1.trans HPM.out, (by have h := HFF.out; rw [sym2, if_pos ⟨k1, k2⟩] at h; exact h), hs.2.1, HO.out.trans hs.2.2⟩)
           clear hs HPM HBK HO HL HKD HFF IS
           have IS := HS
           clear HS d1 d1n d2 d2n k1 k2
           as_aux_lemma =>
            by_cases k1 : mid < en
            ·have d1 : decide ((mid : Int) < (en : Int)) = true := by simp; omega
             have d1n : decide (mid < en) = true := by simp; omega
             by_cases k2 : en < b
             ·have d2 : decide ((en : Int) < (b : Int)) = true := by simp; omega
              have d2n : decide (en < b) = true := by simp; omega
              obtain ⟨D, hp, hF, hbk, ho⟩ := IS.out
              have HFF := Lib.hid hF
              have HPM := Lib.hid hp
              have HBK := Lib.hid hbk
              have HO := Lib.hid ho
              have HL := Lib.hid (hp.length_eq.trans HP.out)
              have HKD := Lib.hid (HK.out.on ho hp)
              clear hp hF hbk ho
              go_wp2_with fail
              (with_reducible refine (IH.out mid en b D _ (by omega) HBK.out HL.out k1 k2 (by omega) HKD.out).mono ?_)
              rintro ex w3 ⟨rfl, hs⟩
              have HS := Lib.hid (show SX 3 w g D0 (fun D => D = T) w3 from ⟨_, hs.1.trans HPM.out, (by have h := HFF.out; rw [sym3, if_pos ⟨k1, k2⟩] at h; exact h), hs.2.1, HO.out.trans hs.2.2⟩)
              clear hs HPM HBK HO HL HKD HFF IS
              have IS := HS
              clear HS d1 d1n d2 d2n k1 k2
              go_wp2
              go_end0
              obtain ⟨D, hp, hF, hbk, ho⟩ := IS.out
              obtain rfl := hF
              exact ⟨rfl, hp, hbk, ho⟩
             ·have d2 : decide ((en : Int) < (b : Int)) = false := by simp; omega
              have d2n : decide (en < b) = false := by simp; omega
              have HS := Lib.hid (IS.out.imp (G := fun D => D = T) (fun D h => by rw [sym3, if_neg (fun hh => k2 hh.2)] at h; exact h))
              clear IS
              have IS := HS
              clear HS
              go_wp2
              go_end0
              obtain ⟨D, hp, hF, hbk, ho⟩ := IS.out
              obtain rfl := hF
              exact ⟨rfl, hp, hbk, ho⟩
            ·have d1 : decide ((mid : Int) < (en : Int)) = false := by simp; omega
             have d1n : decide (mid < en) = false := by simp; omega
             have HS := Lib.hid (IS.out.imp (G := fun D => D = T) (fun D h => by rw [sym3, if_neg (fun hh => k1 hh.1)] at h; exact h))
             clear IS
             have IS := HS
             clear HS
             go_wp2
             go_end0
             obtain ⟨D, hp, hF, hbk, ho⟩ := IS.out
             obtain rfl := hF
             exact ⟨rfl, hp, hbk, ho⟩
          ·have d2 : decide ((i : Int) < (mid : Int)) = false := by simp; omega
           have d2n : decide (i < mid) = false := by simp; omega
           have HS := Lib.hid (IS.out.imp (G := fun D => sym3 K sz mid en b D = T) (fun D h => by rw [sym2, if_neg (fun hh => k2 hh.2)] at h; exact h))
           clear IS
           have IS := HS
           clear HS
           as_aux_lemma =>
            by_cases k1 : mid < en
            ·have d1 : decide ((mid : Int) < (en : Int)) = true := by simp; omega
             have d1n : decide (mid < en) = true := by simp; omega
             by_cases k2 : en < b
             ·have d2 : decide ((en : Int) < (b : Int)) = true := by simp; omega
              have d2n : decide (en < b) = true := by simp; omega
              obtain ⟨D, hp, hF, hbk, ho⟩ := IS.out
              have HFF := Lib.hid hF
              have HPM := Lib.hid hp
              have HBK := Lib.hid hbk
              have HO := Lib.hid ho
              have HL := Lib.hid (hp.length_eq.trans HP.out)
              have HKD := Lib.hid (HK.out.on ho hp)
              clear hp hF hbk ho
              go_wp2_with fail
              (with_reducible refine (IH.out mid en b D _ (by omega) HBK.out HL.out k1 k2 (by omega) HKD.out).mono ?_)
              rintro ex w3 ⟨rfl, hs⟩
              have HS := Lib.hid (show SX 3 w g D0 (fun D => D = T) w3 from ⟨_, hs.1.trans HPM.out, (by have h := HFF.out; rw [sym3, if_pos ⟨k1, k2⟩] at h; exact h), hs.2.1, HO.out.trans hs.2.2⟩)
              clear hs HPM HBK HO HL HKD HFF IS
              have IS := HS
              clear HS d1 d1n d2 d2n k1 k2
              go_wp2
              go_end0
              obtain ⟨D, hp, hF, hbk, ho⟩ := IS.out
              obtain rfl := hF
              exact ⟨rfl, hp, hbk, ho⟩
             ·have d2 : decide ((en : Int) < (b : Int)) = false := by simp; omega
              have d2n : decide (en < b) = false := by simp; omega
              have HS := Lib.hid (IS.out.imp (G := fun D => D = T) (fun D h => by rw [sym3, if_neg (fun hh => k2 hh.2)] at h; exact h))
              clear IS
              have IS := HS
              clear HS
              go_wp2
              go_end0
              obtain ⟨D, hp, hF, hbk, ho⟩ := IS.out
              obtain rfl := hF
              exact ⟨rfl, hp, hbk, ho⟩
            ·have d1 : decide ((mid : Int) < (en : Int)) = false := by simp; omega
             have d1n : decide (mid < en) = false := by simp; omega
             have HS := Lib.hid (IS.out.imp (G := fun D => D = T) (fun D h => by rw [sym3, if_neg (fun hh => k1 hh.1)] at h; exact h))
             clear IS
             have IS := HS
             clear HS
             go_wp2
             go_end0
             obtain ⟨D, hp, hF, hbk, ho⟩ := IS.out
             obtain rfl := hF
             exact ⟨rfl, hp, hbk, ho⟩
         ·have d1 : decide ((a : Int) < (i : Int)) = false := by simp; omega
          have d1n : decide (a < i) = false := by simp; omega
          have HS := Lib.hid (IS.out.imp (G := fun D => sym3 K sz mid en b D = T) (fun D h => by rw [sym2, if_neg (fun hh => k1 hh.1)] at h; exact h))
          clear IS
          have IS := HS
          clear HS
          as_aux_lemma =>
           by_cases k1 : mid < en
           ·have d1 : decide ((mid : Int) < (en : Int)) = true := by simp; omega
            have d1n : decide (mid < en) = true := by simp; omega
            by_cases k2 : en < b
            ·have d2 : decide ((en : Int) < (b : Int)) = true := by simp; omega
             have d2n : decide (en < b) = true := by simp; omega
             obtain ⟨D, hp, hF, hbk, ho⟩ := IS.out
             have HFF := Lib.hid hF
             have HPM := Lib.hid hp
             have HBK := Lib.hid hbk
             have HO := Lib.hid ho
             have HL := Lib.hid (hp.length_eq.trans HP.out)
             have HKD := Lib.hid (HK.out.on ho hp)
             clear hp hF hbk ho
             go_wp2_with fail
             (with_reducible refine (IH.out mid en b D _ (by omega) HBK.out HL.out k1 k2 (by omega) HKD.out).mono ?_)
             rintro ex w3 ⟨rfl, hs⟩
             have HS := Lib.hid (show SX 3 w g D0 (fun D => D = T) w3 from ⟨_, hs.1.trans HPM.out, (by have h := HFF.out; rw [sym3, if_pos ⟨k1, k2⟩] at h; exact h), hs.2.1, HO.out.trans hs.2.2⟩)
             clear hs HPM HBK HO HL HKD HFF IS
             have IS := HS
             clear HS d1 d1n d2 d2n k1 k2
             go_wp2
             go_end0
             obtain ⟨D, hp, hF, hbk, ho⟩ := IS.out
             obtain rfl := hF
             exact ⟨rfl, hp, hbk, ho⟩
            ·have d2 : decide ((en : Int) < (b : Int)) = false := by simp; omega
             have d2n : decide (en < b) = false := by simp; omega
             have HS := Lib.hid (IS.out.imp (G := fun D => D = T) (fun D h => by rw [sym3, if_neg (fun hh => k2 hh.2)] at h; exact h))
             clear IS
             have IS := HS
             clear HS
             go_wp2
             go_end0
             obtain ⟨D, hp, hF, hbk, ho⟩ := IS.out
             obtain rfl := hF
             exact ⟨rfl, hp, hbk, ho⟩
           ·have d1 : decide ((mid : Int) < (en : Int)) = false := by simp; omega
            have d1n : decide (mid < en) = false := by simp; omega
            have HS := Lib.hid (IS.out.imp (G := fun D => D = T) (fun D h => by rw [sym3, if_neg (fun hh => k1 hh.1)] at h; exact h))
            clear IS
            have IS := HS
            clear HS
            go_wp2
            go_end0
            obtain ⟨D, hp, hF, hbk, ho⟩ := IS.out
            obtain rfl := hF
            exact ⟨rfl, hp, hbk, ho⟩
       ·have d1 : decide ((i : Int) < (m : Int)) = false := by simp; omega
        have d1n : decide (i < m) = false := by simp; omega
        have HS := Lib.hid (IS.out.imp (G := fun D => sym2 K sz a i mid en b D = T) (fun D h => by rw [sym1, if_neg (fun hh => k1 hh.1)] at h; exact h))
        clear IS
        have IS := HS
        clear HS
        by_cases k1 : a < i
        ·have d1 : decide ((a : Int) < (i : Int)) = true := by simp; omega
         have d1n : decide (a < i) = true := by simp; omega
         by_cases k2 : i < mid
         ·have d2 : decide ((i : Int) < (mid : Int)) = true := by simp; omega
          have d2n : decide (i < mid) = true := by simp; omega
          obtain ⟨D, hp, hF, hbk, ho⟩ := IS.out
          have HFF := Lib.hid hF
          have HPM := Lib.hid hp
          have HBK := Lib.hid hbk
          have HO := Lib.hid ho
          have HL := Lib.hid (hp.length_eq.trans HP.out)
          have HKD := Lib.hid (HK.out.on ho hp)
          clear hp hF hbk ho
          go_wp2_with fail
          (with_reducible refine (IH.out a i mid D _ (by omega) HBK.out HL.out k1 k2 (by omega) HKD.out).mono ?_)
          rintro ex w3 ⟨rfl, hs⟩
          have HS := Lib.hid (show SX 3 w g D0 (fun D => sym3 K sz mid en b D = T) w3 from ⟨_, hs.1.trans HPM.out, (by have h := HFF.out; rw [sym2, if_pos ⟨k1, k2⟩] at h; exact h), hs.2.1, HO.out.trans hs.2.2⟩)
          clear hs HPM HBK HO HL HKD HFF IS
          have IS := HS
          clear HS d1 d1n d2 d2n k1 k2
          as_aux_lemma =>
           by_cases k1 : mid < en
           ·have d1 : decide ((mid : Int) < (en : Int)) = true := by simp; omega
            have d1n : decide (mid < en) = true := by simp; omega
            by_cases k2 : en < b
            ·have d2 : decide ((en : Int) < (b : Int)) = true := by simp; omega
             have d2n : decide (en < b) = true := by simp; omega
             obtain ⟨D, hp, hF, hbk, ho⟩ := IS.out
             have HFF := Lib.hid hF
             have HPM := Lib.hid hp
             have HBK := Lib.hid hbk
             have HO := Lib.hid ho
             have HL := Lib.hid (hp.length_eq.trans HP.out)
             have HKD := Lib.hid (HK.out.on ho hp)
             clear hp hF hbk ho
             go_wp2_with fail
             (with_reducible refine (IH.out mid en b D _ (by omega) HBK.out HL.out k1 k2 (by omega) HKD.out).mono ?_)
             rintro ex w3 ⟨rfl, hs⟩
             have HS := Lib.hid (show SX 3 w g D0 (fun D => D = T) w3 from ⟨_, hs.1.trans HPM.out, (by have h := HFF.out; rw [sym3, if_pos ⟨k1, k2⟩] at h; exact h), hs.2.1, HO.out.trans hs.2.2⟩)
             clear hs HPM HBK HO HL HKD HFF IS
             have IS := HS
             clear HS d1 d1n d2 d2n k1 k2
             go_wp2
             go_end0
             obtain ⟨D, hp, hF, hbk, ho⟩ := IS.out
             obtain rfl := hF
             exact ⟨rfl, hp, hbk, ho⟩
            ·have d2 : decide ((en : Int) < (b : Int)) = false := by simp; omega
             have d2n : decide (en < b) = false := by simp; omega
             have HS := Lib.hid (IS.out.imp (G := fun D => D = T) (fun D h => by rw [sym3, if_neg (fun hh => k2 hh.2)] at h; exact h))
             clear IS
             have IS := HS
             clear HS
             go_wp2
             go_end0
             obtain ⟨D, hp, hF, hbk, ho⟩ := IS.out
             obtain rfl := hF
             exact ⟨rfl, hp, hbk, ho⟩
           ·have d1 : decide ((mid : Int) < (en : Int)) = false := by simp; omega
            have d1n : decide (mid < en) = false := by simp; omega
            have HS := Lib.hid (IS.out.imp (G := fun D => D = T) (fun D h => by rw [sym3, if_neg (fun hh => k1 hh.1)] at h; exact h))
            clear IS
            have IS := HS
            clear HS
            go_wp2
            go_end0
            obtain ⟨D, hp, hF, hbk, ho⟩ := IS.out
            obtain rfl := hF
            exact ⟨rfl, hp, hbk, ho⟩
         ·have d2 : decide ((i : Int) < (mid : Int)) = false := by simp; omega
          have d2n : decide (i < mid) = false := by simp; omega
          have HS := Lib.hid (IS.out.imp (G := fun D => sym3 K sz mid en b D = T) (fun D h => by rw [sym2, if_neg (fun hh => k2 hh.2)] at h; exact h))
          clear IS
          have IS := HS
          clear HS
          as_aux_lemma =>
           by_cases k1 : mid < en
           ·have d1 : decide ((mid : Int) < (en : Int)) = true := by simp; omega
            have d1n : decide (mid < en) = true := by simp; omega
            by_cases k2 : en < b
            ·have d2 : decide ((en : Int) < (b : Int)) = true := by simp; omega
             have d2n : decide (en < b) = true := by simp; omega
             obtain ⟨D, hp, hF, hbk, ho⟩ := IS.out
             have HFF := Lib.hid hF
             have HPM := Lib.hid hp
             have HBK := Lib.hid hbk
             have HO := Lib.hid ho
             have HL := Lib.hid (hp.length_eq.trans HP.out)
             have HKD := Lib.hid (HK.out.on ho hp)
             clear hp hF hbk ho
             go_wp2_with fail
             (with_reducible refine (IH.out mid en b D _ (by omega) HBK.out HL.out k1 k2 (by omega) HKD.out).mono ?_)
             rintro ex w3 ⟨rfl, hs⟩
             have HS := Lib.hid (show SX 3 w g D0 (fun D => D = T) w3 from ⟨_, hs.1.trans HPM.out, (by have h := HFF.out; rw [sym3, if_pos ⟨k1, k2⟩] at h; exact h), hs.2.1, HO.out.trans hs.2.2⟩)
             clear hs HPM HBK HO HL HKD HFF IS
             have IS := HS
             clear HS d1 d1n d2 d2n k1 k2
             go_wp2
             go_end0
             obtain ⟨D, hp, hF, hbk, ho⟩ := IS.out
             obtain rfl := hF
             exact ⟨rfl, hp, hbk, ho⟩
            ·have d2 : decide ((en : Int) < (b : Int)) = false := by simp; omega
             have d2n : decide (en < b) = false := by simp; omega
             have HS := Lib.hid (IS.out.imp (G := fun D => D = T) (fun D h => by rw [sym3, if_neg (fun hh => k2 hh.2)] at h; exact h))
             clear IS
             have IS := HS
             clear HS
             go_wp2
             go_end0
             obtain ⟨D, hp, hF, hbk, ho⟩ := IS.out
             obtain rfl := hF
             exact ⟨rfl, hp, hbk, ho⟩
           ·have d1 : decide ((mid : Int) < (en : Int)) = false := by simp; omega
            have d1n : decide (mid < en) = false := by simp; omega
            have HS := Lib.hid (IS.out.imp (G := fun D => D = T) (fun D h => by rw [sym3, if_neg (fun hh => k1 hh.1)] at h; exact h))
            clear IS
            have IS := HS
            clear HS
            go_wp2
            go_end0
            obtain ⟨D, hp, hF, hbk, ho⟩ := IS.out
            obtain rfl := hF
            exact ⟨rfl, hp, hbk, ho⟩
        ·have d1 : decide ((a : Int) < (i : Int)) = false := by simp; omega
         have d1n : decide (a < i) = false := by simp; omega
         have HS := Lib.hid (IS.out.imp (G := fun D => sym3 K sz mid en b D = T) (fun D h => by rw [sym2, if_neg (fun hh => k1 hh.1)] at h; exact h))
         clear IS
         have IS := HS
         clear HS
         as_aux_lemma =>
          by_cases k1 : mid < en
          ·have d1 : decide ((mid : Int) < (en : Int)) = true := by simp; omega
           have d1n : decide (mid < en) = true := by simp; omega
           by_cases k2 : en < b
           ·have d2 : decide ((en : Int) < (b : Int)) = true := by simp; omega
            have d2n : decide (en < b) = true := by simp; omega
            obtain ⟨D, hp, hF, hbk, ho⟩ := IS.out
            have HFF := Lib.hid hF
            have HPM := Lib.hid hp
            have HBK := Lib.hid hbk
            have HO := Lib.hid ho
            have HL := Lib.hid (hp.length_eq.trans HP.out)
            have HKD := Lib.hid (HK.out.on ho hp)
            clear hp hF hbk ho
            go_wp2_with fail
            (with_reducible refine (IH.out mid en b D _ (by omega) HBK.out HL.out k1 k2 (by omega) HKD.out).mono ?_)
            rintro ex w3 ⟨rfl, hs⟩
            have HS := Lib.hid (show SX 3 w g D0 (fun D => D = T) w3 from ⟨_, hs.1.trans HPM.out, (by have h := HFF.out; rw [sym3, if_pos ⟨k1, k2⟩] at h; exact h), hs.2.1, HO.out.trans hs.2.2⟩)
            clear hs HPM HBK HO HL HKD HFF IS
            have IS := HS
            clear HS d1 d1n d2 d2n k1 k2
            go_wp2
            go_end0
            obtain ⟨D, hp, hF, hbk, ho⟩ := IS.out
            obtain rfl := hF
            exact ⟨rfl, hp, hbk, ho⟩
           ·have d2 : decide ((en : Int) < (b : Int)) = false := by simp; omega
            have d2n : decide (en < b) = false := by simp; omega
            have HS := Lib.hid (IS.out.imp (G := fun D => D = T) (fun D h => by rw [sym3, if_neg (fun hh => k2 hh.2)] at h; exact h))
            clear IS
            have IS := HS
            clear HS
            go_wp2
            go_end0
            obtain ⟨D, hp, hF, hbk, ho⟩ := IS.out
            obtain rfl := hF
            exact ⟨rfl, hp, hbk, ho⟩
          ·have d1 : decide ((mid : Int) < (en : Int)) = false := by simp; omega
           have d1n : decide (mid < en) = false := by simp; omega
           have HS := Lib.hid (IS.out.imp (G := fun D => D = T) (fun D h => by rw [sym3, if_neg (fun hh => k1 hh.1)] at h; exact h))
           clear IS
           have IS := HS
           clear HS
           go_wp2
           go_end0
           obtain ⟨D, hp, hF, hbk, ho⟩ := IS.out
           obtain rfl := hF
           exact ⟨rfl, hp, hbk, ho⟩
end Go.Proofs.YtgmapikcpnffhaaGreat
namespace Go.Proofs.YtgmapikcpnffhaaGreat
open Go.RowKit Go.Bk
set_option linter.unusedVariables false
set_option linter.unusedSimpArgs false
set_option maxRecDepth 100000 in
set_option maxHeartbeats 8000000 in
theorem stab_x (K : Int → Int → Int) (ba g P c : Nat) (D0 : List Int) (w : World) (h : Blk w g 3 (i64s D0).toArray) (hP : D0.length = P) (hP2 : P ≤ 4096) (hk : CmpOk K ba g D0 w) :
  Calls Tryz.prog 75 #[.slice (some ⟨g, 0, none⟩) P c, .int .i64 (P : Int), .func (.func 32) #[] #[.pointer (some ⟨ba, 0, none⟩)]] w (SoT g D0 (stD K P D0) w) := by
 obtain ⟨E, hE⟩ : ∃ E, stB K P P 0 D0 = E := ⟨_, rfl⟩
 obtain ⟨T, hT⟩ : ∃ T, stD K P D0 = T := ⟨_, rfl⟩
 rw [hT]
 have HE := Lib.hid (show MgAI K P 20 E T from hT ▸ MgAI.start hE)
 have H0 := Lib.hid (SX.start (F := fun D => StBI K P 0 D E) h (hE ▸ StBI.start K P D0))
 have HP := Lib.hid hP
 have HK := Lib.hid hk
 clear h hP hk hE hT
 go_enter Tryz.func75, Tryz.ntmps75
 go_wp2
 go_loopw [7, 8] (fun av bv wr => ∃ a b : Nat, a ≤ P ∧ a + 20 = b ∧ av = .int .i64 a ∧ bv = .int .i64 b ∧ Hid (SX 3 w g D0 (fun D => StBI K P a D E) wr)) (fun av _ _ => P + 1 - (intOf av).toNat)
 case atStart => exact ⟨0, 20, by omega, rfl, rfl, rfl, H0⟩
 case round =>
  clear H0
  obtain ⟨a, b, ha, hb, rfl, rfl, IS⟩ := hrel
  obtain ⟨D, hp, hF, hbk, ho⟩ := IS.out
  have HFF := Lib.hid hF
  have HPM := Lib.hid hp
  have HBK := Lib.hid hbk
  have HO := Lib.hid ho
  have HL := Lib.hid (hp.length_eq.trans HP.out)
  clear hp hF hbk ho IS
  by_cases hle : b ≤ P
  ·have t1 : decide ((b : Int) ≤ P) = true := by simp; omega
   have w1 : IntKind.i64.wrap ((b : Int) + 20) = ((b + 20 : Nat) : Int) := by rw [show (b : Int) + 20 = ((b + 20 : Nat) : Int) by omega]; exact IntWalk.i64_in _ (by omega)
   go_wp2_with fail
   (with_reducible refine (ins_x K ba g P c a b D _ HBK.out HL.out hle (by omega) hP2 (HK.out.on HO.out HPM.out)).mono ?_)
   rintro en w3 ⟨rfl, hs⟩
   have HS := Lib.hid (show SX 3 w g D0 (fun D => StBI K P b D E) w3 from ⟨_, hs.1.trans HPM.out, HFF.out.step hb hle, hs.2.1, HO.out.trans hs.2.2⟩)
   clear hs
   go_wp2
   exact ⟨⟨b, b + 20, by omega, rfl, rfl, rfl, HS⟩, by simp [intOf]; omega⟩
  ·have t1 : decide ((b : Int) ≤ P) = false := by simp; omega
   go_wp2_with fail
   (with_reducible refine (ins_x K ba g P c a P D _ HBK.out HL.out (Nat.le_refl _) ha hP2 (HK.out.on HO.out HPM.out)).mono ?_)
   rintro en w3 ⟨rfl, hs⟩
   have HS := Lib.hid (show SX 3 w g D0 (fun D => MgAI K P 20 D T) w3 from ⟨_, hs.1.trans HPM.out, (by rw [HFF.out.last hb hle]; exact HE.out), hs.2.1, HO.out.trans hs.2.2⟩)
   clear hs HPM HBK HO HL HFF HE t1
   go_wp2
   go_loopw [6] (fun sv wr => ∃ s : Nat, 20 ≤ s ∧ s ≤ 8192 ∧ sv = .int .i64 s ∧ Hid (SX 3 w g D0 (fun D => MgAI K P s D T) wr)) (fun sv _ => 8193 - (intOf sv).toNat)
   case atStart => exact ⟨20, by omega, by omega, rfl, HS⟩
   case round =>
    clear HS hle ha hb
    obtain ⟨s, hs1, hs2, rfl, IS⟩ := hrel
    by_cases hlt : s < P
    ·have t2 : decide ((s : Int) < P) = true := by simp; omega
     have t2n : decide (s < P) = true := by simp; omega
     obtain ⟨q, hq⟩ : ∃ q, 2 * s = q := ⟨_, rfl⟩
     have w2 : IntKind.i64.wrap (2 * (s : Int)) = (q : Int) := by rw [show 2 * (s : Int) = (q : Int) by omega]; exact IntWalk.i64_in _ (by omega)
     have w2' : IntKind.i64.wrap ((s : Int) * 2) = (q : Int) := by rw [show (s : Int) * 2 = (q : Int) by omega]; exact IntWalk.i64_in _ (by omega)
     go_wp2_with fail
     obtain ⟨D, hp, hF, hbk, ho⟩ := IS.out
     obtain ⟨U, hU⟩ : ∃ U, mgP K P s P 0 D = U := ⟨_, rfl⟩
     have HU := Lib.hid (show MgAI K P q U T from hU ▸ hF.step hs1 hq hlt)
     have HI0 := Lib.hid (show SX 3 w g D0 (fun D => MgI K P s 0 D U) wr from ⟨D, hp, hU ▸ MgI.start K P s D, hbk, ho⟩)
     clear hp hF hbk ho hU IS
     go_loopw [7, 8] (fun av bv wr => ∃ a b : Nat, a ≤ P ∧ a + q = b ∧ av = .int .i64 a ∧ bv = .int .i64 b ∧ Hid (SX 3 w g D0 (fun D => MgI K P s a D U) wr)) (fun av _ _ => P + 1 - (intOf av).toNat)
     case atStart => exact ⟨0, q, by omega, by omega, rfl, rfl, HI0⟩
     case round =>
      clear HI0
      obtain ⟨a, b, ha, hb, rfl, rfl, IS⟩ := hrel
      obtain ⟨D, hp, hF, hbk, ho⟩ := IS.out
      have HFF := Lib.hid hF
      have HPM := Lib.hid hp
      have HBK := Lib.hid hbk
      have HO := Lib.hid ho
      have HL := Lib.hid (hp.length_eq.trans HP.out)
      have HI := Lib.hid IS
      clear hp hF hbk ho IS
      obtain ⟨m, hm⟩ : ∃ m, a + s = m := ⟨_, rfl⟩
      have w3 : IntKind.i64.wrap ((a : Int) + (s : Int)) = (m : Int) := by rw [show (a : Int) + (s : Int) = (m : Int) by omega]; exact IntWalk.i64_in _ (by omega)
      by_cases hle : b ≤ P
      ·have t3 : decide ((b : Int) ≤ P) = true := by simp; omega
       have w4 : IntKind.i64.wrap ((b : Int) + (q : Int)) = ((b + q : Nat) : Int) := by rw [show (b : Int) + (q : Int) = ((b + q : Nat) : Int) by omega]; exact IntWalk.i64_in _ (by omega)
       go_wp2_with fail
       (with_reducible refine (sym_x K ba g P c hP2 (b - a) a m b D _ (Nat.le_refl _) HBK.out HL.out (by omega) (by omega) hle (HK.out.on HO.out HPM.out)).mono ?_)
       rintro en w3' ⟨rfl, hs⟩
       have HS := Lib.hid (show SX 3 w g D0 (fun D => MgI K P s b D U) w3' from ⟨_, hs.1.trans HPM.out, HFF.out.step hs1 hq hb hm hle, hs.2.1, HO.out.trans hs.2.2⟩)
       clear hs
       go_wp2
       exact ⟨⟨b, b + q, by omega, rfl, rfl, rfl, HS⟩, by simp [intOf]; omega⟩
      ·have t3 : decide ((b : Int) ≤ P) = false := by simp; omega
       by_cases hmP : m < P
       ·have t4 : decide ((m : Int) < P) = true := by simp; omega
        have t4n : decide (m < P) = true := by simp; omega
        go_wp2_with fail
        (with_reducible refine (sym_x K ba g P c hP2 (P - a) a m P D _ (Nat.le_refl _) HBK.out HL.out (by omega) (by omega) (Nat.le_refl _) (HK.out.on HO.out HPM.out)).mono ?_)
        rintro en w3' ⟨rfl, hs⟩
        have HS := Lib.hid (show SX 3 w g D0 (fun D => MgAI K P q D T) w3' from ⟨_, hs.1.trans HPM.out, (by rw [HFF.out.last hs1 hq hb hm hle hmP]; exact HU.out), hs.2.1, HO.out.trans hs.2.2⟩)
        clear hs
        go_wp2
        exact ⟨⟨q, by omega, by omega, rfl, HS⟩, by simp [intOf]; omega⟩
       ·have t4 : decide ((m : Int) < P) = false := by simp; omega
        have t4n : decide (m < P) = false := by simp; omega
        go_wp2
        exact ⟨⟨q, by omega, by omega, rfl, Lib.hid (show SX 3 w g D0 (fun D => MgAI K P q D T) _ from ⟨D, HPM.out, (by rw [HFF.out.done hq hb hm hle hmP]; exact HU.out), HBK.out, HO.out⟩)⟩, by simp [intOf]; omega⟩
    ·have t2 : decide ((s : Int) < P) = false := by simp; omega
     have t2n : decide (s < P) = false := by simp; omega
     go_wp2
     go_end0
     obtain ⟨D, hp, hF, hbk, ho⟩ := IS.out
     obtain rfl := hF.done hlt
     exact ⟨rfl, hp, hbk, ho⟩
set_option maxRecDepth 100000 in
set_option maxHeartbeats 4000000 in
theorem stabF_x (K : Int → Int → Int) (ba g P c : Nat) (D0 : List Int) (w : World) (h : Blk w g 3 (i64s D0).toArray) (hP : D0.length = P) (hP2 : P ≤ 4096) (hk : CmpOk K ba g D0 w) :
  Calls Tryz.prog 31 #[.slice (some ⟨g, 0, none⟩) P c, .func (.func 32) #[] #[.pointer (some ⟨ba, 0, none⟩)]] w (SoT g D0 (stD K P D0) w) := by
 have H0 := Lib.hid h
 have HP := Lib.hid hP
 have HK := Lib.hid hk
 clear h hP hk
 go_enter Tryz.func31, Tryz.ntmps31
 go_wp2_with fail
 (with_reducible refine (stab_x K ba g P c D0 _ H0.out HP.out hP2 HK.out).mono ?_)
 rintro en w3 ⟨rfl, hs⟩
 go_wp2
 go_end0
 exact ⟨rfl, hs⟩
end Go.Proofs.YtgmapikcpnffhaaGreat
namespace Go.Proofs.YtgmapikcpnffhaaGreat
open Go.RowKit Go.Bk
set_option linter.unusedVariables false
set_option linter.unusedSimpArgs false
def begK (D : List Int) (x y : Int) : Int := Lib.compareInt (D.getD x.toNat 0) (D.getD y.toNat 0)
set_option maxRecDepth 100000 in
set_option maxHeartbeats 4000000 in
theorem homes1_ok (ba gA g P c : Nat) (D D0 : List Int) (w : World) (hbox : Blk w ba 23 #[.slice (some ⟨gA, 0, none⟩) P c]) (hA : Blk w gA 3 (i64s D).toArray) (hD : D.length = P) (h0 : ∀ x ∈ D0, 0 ≤ x ∧ x < (P : Int)) (h1 : ba ≠ g) (h2 : gA ≠ g) :
  CmpOk (begK D) ba g D0 w := by
 intro wr ho x y hx hy
 have kb := ho.blk hbox h1
 have ka := ho.blk hA h2
 have rx := h0 x hx
 have ry := h0 y hy
 obtain ⟨zx, rfl⟩ : ∃ z : Nat, x = z := ⟨x.toNat, by omega⟩
 obtain ⟨zy, rfl⟩ : ∃ z : Nat, y = z := ⟨y.toNat, by omega⟩
 have bx : zx < P := by omega
 have bY : zy < P := by omega
 obtain ⟨a, ha⟩ : ∃ a, D[zx]? = some a := ⟨_, List.getElem?_eq_getElem (by omega)⟩
 obtain ⟨b, hb⟩ : ∃ b, D[zy]? = some b := ⟨_, List.getElem?_eq_getElem (by omega)⟩
 have hK : begK D (zx : Int) (zy : Int) = Lib.compareInt a b := by
  unfold begK
  rw [Int.toNat_natCast, Int.toNat_natCast, List.getD_eq_getElem?_getD, List.getD_eq_getElem?_getD, ha, hb]
  rfl
 rw [hK]
 have c0 := kb.cell 0
 simp at c0
 have y0 := kb.lt
 have c1 := blk_num ka ha
 have c2 := blk_num ka hb
 have y1 := ka.lt
 clear hbox hA hD h0 hx hy ha hb hK kb ka ho
 go_enter Tryz.func32, Tryz.ntmps32
 go_wp2_with fail
 go_quiet ((go_at_call 33; exact Calls.quiet_of_same (Tryz.cmp_Compare_int a b _)))
 go_wp2
 go_ret
 exact ⟨rfl, _, rfl⟩
end Go.Proofs.YtgmapikcpnffhaaGreat
