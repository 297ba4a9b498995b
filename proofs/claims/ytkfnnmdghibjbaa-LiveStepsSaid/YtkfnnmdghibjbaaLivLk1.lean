/-
  The memory of live.look.
  Conditions: none.
-/
import Derived.Test.YtkfnnmdghibjbaaLivLk0
namespace Go.Proofs.Ytkfnnmdghibjbaa
open Go.RowKit Go.Bk Go.Bk.Liv
set_option linter.unusedVariables false
set_option linter.unusedSimpArgs false

/-- sets in memory, the first of them made already -/
def setsV (bA : List Nat) (n : Nat) : Array Value := (mapsV bA ++ List.replicate (n - bA.length) (Value.map none)).toArray
theorem setsV_at {bA : List Nat} {n i b : Nat} (h : bA[i]? = some b) : (setsV bA n)[i]? = some (.map (some b)) := by
  unfold setsV
  have hl := (List.getElem?_eq_some_iff.1 h).1
  rw [List.getElem?_toArray, List.getElem?_append_left (by rw [mapsV_len]; exact hl)]
  simp [mapsV, h]
theorem setsV_full {bA : List Nat} {n : Nat} (h : bA.length = n) : setsV bA n = (mapsV bA).toArray := by
  unfold setsV
  rw [h, Nat.sub_self]
  simp
theorem setsV_push {bA : List Nat} {n b : Nat} (h : bA.length < n) : (setsV bA n).setIfInBounds bA.length (.map (some b)) = setsV (bA ++ [b]) n := by
  unfold setsV
  apply Array.ext_getElem?
  intro j
  have e : n - bA.length = (n - (bA ++ [b]).length) + 1 := by simp; omega
  rw [e, List.replicate_succ]
  rw [Array.getElem?_setIfInBounds]
  have hl := mapsV_len bA
  by_cases hj : bA.length = j
  · subst hj
    rw [if_pos rfl, if_pos (by simp [hl])]
    simp [mapsV]
  · rw [if_neg hj]
    simp only [List.getElem?_toArray]
    have e2 : mapsV (bA ++ [b]) = mapsV bA ++ [.map (some b)] := by simp [mapsV]
    rw [e2, List.append_assoc]
    by_cases hlt : j < bA.length
    · rw [List.getElem?_append_left (by omega), List.getElem?_append_left (by omega)]
    · rw [List.getElem?_append_right (by omega), List.getElem?_append_right (by omega), hl]
      have hp : 0 < j - bA.length := by omega
      obtain ⟨q, hq⟩ : ∃ q, j - bA.length = q + 1 := ⟨j - bA.length - 1, by omega⟩
      rw [hq]
      simp

structure LkM (w : World) (n base bR gF gA gB gFr gW : Nat) (rv : Array Value) (bA bB : List Nat) (A B : Sets) (vF : List Value) (F : Sets) (wt : List Bool) : Prop where
  r : Blk w bR 31 rv
  f : Blk w gF 57 #[.slice (some ⟨gA, 0, none⟩) n n, .slice (some ⟨gB, 0, none⟩) n n]
  a : Blk w gA 64 (setsV bA n)
  b : Blk w gB 64 (setsV bB n)
  la : bA.length = A.length
  lb : bB.length = B.length
  ma : ∀ (i : Nat) b s, bA[i]? = some b → A[i]? = some s → IM w b (setKV s)
  mb : ∀ (i : Nat) b s, bB[i]? = some b → B[i]? = some s → IM w b (setKV s)
  nd : (bA ++ bB).Nodup
  fr : Blk w gFr 23 vF.toArray
  rf : RowsOf w base vF F
  w : Blk w gW 4 (boolsV wt).toArray
  lR : base ≤ bR
  lF : base ≤ gF
  lA : base ≤ gA
  lB : base ≤ gB
  lr : base ≤ gFr
  lW : base ≤ gW
  lm : ∀ b ∈ bA ++ bB, base ≤ b
  hab : gA ≠ gB

section
variable {w w' : World} {n base bR gF gA gB gFr gW : Nat} {rv : Array Value} {bA bB : List Nat} {A B : Sets} {vF : List Value} {F : Sets} {wt : List Bool}
theorem LkM.base_lt (h : LkM w n base bR gF gA gB gFr gW rv bA bB A B vF F wt) : base ≤ w.heap.size := Nat.le_of_lt (Nat.lt_of_le_of_lt h.lR h.r.lt)
/-- memory of which only another block was written -/
theorem LkM.keep {r : Option Nat} (h : LkM w n base bR gF gA gB gFr gW rv bA bB A B vF F wt) (hg : w.grownBy w' r) (h1 : ∀ g t cs, Blk w g t cs → t ≠ 3 → t ≠ 43 → r ≠ some g) (h2 : ∀ b m, IM w b m → r ≠ some b) (h3 : ∀ u ∈ vF, ∀ g, u.ownBlock = some g → r ≠ some g) :
    LkM w' n base bR gF gA gB gFr gW rv bA bB A B vF F wt :=
  { h with r := h.r.grown hg (h1 _ _ _ h.r (by decide) (by decide)), f := h.f.grown hg (h1 _ _ _ h.f (by decide) (by decide)), a := h.a.grown hg (h1 _ _ _ h.a (by decide) (by decide)), b := h.b.grown hg (h1 _ _ _ h.b (by decide) (by decide)), fr := h.fr.grown hg (h1 _ _ _ h.fr (by decide) (by decide)), w := h.w.grown hg (h1 _ _ _ h.w (by decide) (by decide)),
           ma := fun i b s q1 q2 => (h.ma i b s q1 q2).grown hg (h2 _ _ (h.ma i b s q1 q2)), mb := fun i b s q1 q2 => (h.mb i b s q1 q2).grown hg (h2 _ _ (h.mb i b s q1 q2)),
           rf := ⟨h.rf.1, fun i u p q1 q2 => own_grown (h.rf.2 i u p q1 q2) hg (fun g hgg => h3 u (List.mem_of_getElem? q1) g hgg)⟩ }
theorem LkM.grown (h : LkM w n base bR gF gA gB gFr gW rv bA bB A B vF F wt) (hb : Below w.heap.size w w') : LkM w' n base bR gF gA gB gFr gW rv bA bB A B vF F wt :=
  h.keep (below_grownBy hb) (fun _ _ _ _ _ _ => by simp) (fun _ _ _ => by simp) (fun _ _ _ _ => by simp)
theorem LkM.drew (h : LkM w n base bR gF gA gB gFr gW rv bA bB A B vF F wt) : LkM w.drew n base bR gF gA gB gFr gW rv bA bB A B vF F wt :=
  { r := h.r, f := h.f, a := h.a, b := h.b, la := h.la, lb := h.lb, ma := h.ma, mb := h.mb, nd := h.nd, fr := h.fr, rf := h.rf, w := h.w, lR := h.lR, lF := h.lF, lA := h.lA, lB := h.lB, lr := h.lr, lW := h.lW, lm := h.lm, hab := h.hab }
theorem nodup_at {l : List Nat} (h : l.Nodup) {i j b : Nat} (hi : l[i]? = some b) (hj : l[j]? = some b) : i = j := by
  obtain ⟨h1, e1⟩ := List.getElem?_eq_some_iff.1 hi
  obtain ⟨h2, e2⟩ := List.getElem?_eq_some_iff.1 hj
  have hp := List.pairwise_iff_getElem.1 h
  rcases Nat.lt_trichotomy i j with hlt | he | hlt
  · exact absurd (e1.trans e2.symm) (hp i j h1 h2 hlt)
  · exact he
  · exact absurd (e2.trans e1.symm) (hp j i h2 h1 hlt)
/-- a set ahead is written -/
theorem LkM.putA (h : LkM w n base bR gF gA gB gFr gW rv bA bB A B vF F wt) {i b : Nat} {s s' : List Int} (hb : bA[i]? = some b) (hs : A[i]? = some s) (hg : w.grownBy w' (some b)) (hm : IM w' b (setKV s')) :
    LkM w' n base bR gF gA gB gFr gW rv bA bB (A.set i s') B vF F wt := by
  have hi := h.ma i b s hb hs
  have hn : ∀ g t cs, Blk w g t cs → (some b : Option Nat) ≠ some g := fun g t cs hk e => by injection e with e; exact hi.blk_ne hk e
  have hnd := List.nodup_append.1 h.nd
  have ho : ∀ u p, w.ownsRow base 3 1 u p (i64s []) → True := fun _ _ _ => trivial
  refine { h with r := h.r.grown hg (hn _ _ _ h.r), f := h.f.grown hg (hn _ _ _ h.f), a := h.a.grown hg (hn _ _ _ h.a), b := h.b.grown hg (hn _ _ _ h.b), fr := h.fr.grown hg (hn _ _ _ h.fr), w := h.w.grown hg (hn _ _ _ h.w), la := by rw [List.length_set]; exact h.la,
                  ma := fun j c u q1 q2 => ?_, mb := fun j c u q1 q2 => ?_, rf := ⟨h.rf.1, fun j u p q1 q2 => ?_⟩ }
  · rcases set_get q2 with ⟨e, e2, _⟩ | ⟨e, e2⟩
    · subst e
      subst e2
      rw [hb] at q1
      injection q1 with q1
      subst q1
      exact hm
    · exact (h.ma j c u q1 e2).grown hg (fun e3 => by injection e3 with e3; subst e3; exact e (nodup_at hnd.1 hb q1))
  · refine (h.mb j c u q1 q2).grown hg (fun e3 => ?_)
    injection e3 with e3
    exact hnd.2.2 b (List.mem_of_getElem? hb) c (List.mem_of_getElem? q1) e3
  · exact own_grown (h.rf.2 j u p q1 q2) hg (fun g hgg e => by
      obtain ⟨cur, hk⟩ := own_blk (h.rf.2 j u p q1 q2) hgg
      exact hn g _ _ hk e)
/-- a set behind is written -/
theorem LkM.putB (h : LkM w n base bR gF gA gB gFr gW rv bA bB A B vF F wt) {i b : Nat} {s s' : List Int} (hb : bB[i]? = some b) (hs : B[i]? = some s) (hg : w.grownBy w' (some b)) (hm : IM w' b (setKV s')) :
    LkM w' n base bR gF gA gB gFr gW rv bA bB A (B.set i s') vF F wt := by
  have hi := h.mb i b s hb hs
  have hn : ∀ g t cs, Blk w g t cs → (some b : Option Nat) ≠ some g := fun g t cs hk e => by injection e with e; exact hi.blk_ne hk e
  have hnd := List.nodup_append.1 h.nd
  refine { h with r := h.r.grown hg (hn _ _ _ h.r), f := h.f.grown hg (hn _ _ _ h.f), a := h.a.grown hg (hn _ _ _ h.a), b := h.b.grown hg (hn _ _ _ h.b), fr := h.fr.grown hg (hn _ _ _ h.fr), w := h.w.grown hg (hn _ _ _ h.w), lb := by rw [List.length_set]; exact h.lb,
                  ma := fun j c u q1 q2 => ?_, mb := fun j c u q1 q2 => ?_, rf := ⟨h.rf.1, fun j u p q1 q2 => ?_⟩ }
  · refine (h.ma j c u q1 q2).grown hg (fun e3 => ?_)
    injection e3 with e3
    exact hnd.2.2 c (List.mem_of_getElem? q1) b (List.mem_of_getElem? hb) e3.symm
  · rcases set_get q2 with ⟨e, e2, _⟩ | ⟨e, e2⟩
    · subst e
      subst e2
      rw [hb] at q1
      injection q1 with q1
      subst q1
      exact hm
    · exact (h.mb j c u q1 e2).grown hg (fun e3 => by injection e3 with e3; subst e3; exact e (nodup_at hnd.2.1 hb q1))
  · exact own_grown (h.rf.2 j u p q1 q2) hg (fun g hgg e => by
      obtain ⟨cur, hk⟩ := own_blk (h.rf.2 j u p q1 q2) hgg
      exact hn g _ _ hk e)
/-- whether one waits is written -/
theorem LkM.wait (h : LkM w n base bR gF gA gB gFr gW rv bA bB A B vF F wt) (i : Nat) (x : Bool) : LkM (w.setCell ⟨gW, i, none⟩ (.bool x)) n base bR gF gA gB gFr gW rv bA bB A B vF F (wt.set i x) := by
  have hg := grown_setCell w gW i (.bool x)
  have hn : ∀ g t cs, Blk w g t cs → t ≠ 4 → (some gW : Option Nat) ≠ some g := fun g t cs hk ht e => by injection e with e; exact blk_ne h.w hk (fun e => ht e.symm) e
  refine { h with r := h.r.grown hg (hn _ _ _ h.r (by decide)), f := h.f.grown hg (hn _ _ _ h.f (by decide)), a := h.a.grown hg (hn _ _ _ h.a (by decide)), b := h.b.grown hg (hn _ _ _ h.b (by decide)), fr := h.fr.grown hg (hn _ _ _ h.fr (by decide)), w := ?_,
                  ma := fun j c u q1 q2 => (h.ma j c u q1 q2).grown hg (fun e => by injection e with e; exact (h.ma j c u q1 q2).blk_ne h.w e.symm),
                  mb := fun j c u q1 q2 => (h.mb j c u q1 q2).grown hg (fun e => by injection e with e; exact (h.mb j c u q1 q2).blk_ne h.w e.symm),
                  rf := ⟨h.rf.1, fun j u p q1 q2 => own_grown (h.rf.2 j u p q1 q2) hg (fun g hgg e => by
                    obtain ⟨cur, hk⟩ := own_blk (h.rf.2 j u p q1 q2) hgg
                    exact hn g _ _ hk (by decide) e)⟩ }
  have := blk_setSame h.w i (.bool x)
  have e1 : (boolsV wt).toArray.setIfInBounds i (.bool x) = (boolsV (wt.set i x)).toArray := by
    simp [boolsV, List.map_set]
  rwa [e1] at this
end
end Go.Proofs.Ytkfnnmdghibjbaa
