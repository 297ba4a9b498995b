/-
  The memory of live.look, while it is made.
  Conditions: none.
-/
import Derived.Test.YtkfnnmdghibjbaaLivLk1
namespace Go.Proofs.Ytkfnnmdghibjbaa
open Go.RowKit Go.Bk Go.Bk.Liv
set_option linter.unusedVariables false
set_option linter.unusedSimpArgs false

/-- no two rows lie in one block, nor one with another row -/
def DJ (vF : List Value) (v : Value) : Prop := (∀ (i j : Nat) a b g, i ≠ j → vF[i]? = some a → vF[j]? = some b → a.ownBlock = some g → b.ownBlock ≠ some g) ∧ ∀ a ∈ vF, ∀ g, a.ownBlock = some g → v.ownBlock ≠ some g
section
variable {w w' : World} {n base bR gF gA gB gFr gW : Nat} {rv : Array Value} {bA bB : List Nat} {A B : Sets} {vF : List Value} {F : Sets} {wt : List Bool}
theorem LkM.addA (h : LkM w n base bR gF gA gB gFr gW rv bA bB A B vF F wt) (hl : bA.length < n) {b : Nat} (hb : IM w b []) (hn : b ∉ bA ++ bB) (hlb : base ≤ b) :
    LkM (w.setCell ⟨gA, bA.length, none⟩ (.map (some b))) n base bR gF gA gB gFr gW rv (bA ++ [b]) bB (A ++ [[]]) B vF F wt := by
  have hg := grown_setCell w gA bA.length (.map (some b))
  have hk : ∀ g t cs, Blk w g t cs → g ≠ gA → Blk (w.setCell ⟨gA, bA.length, none⟩ (.map (some b))) g t cs := fun g t cs hb hne => hb.grown hg (fun e => by injection e with e; exact hne e.symm)
  have hm : ∀ c m, IM w c m → IM (w.setCell ⟨gA, bA.length, none⟩ (.map (some b))) c m := fun c m hc => hc.grown hg (fun e => by injection e with e; exact hc.blk_ne h.a e.symm)
  have hab := List.nodup_append.1 h.nd
  rw [List.mem_append, not_or] at hn
  refine { h with r := hk _ _ _ h.r (blk_ne h.r h.a (by decide)), f := hk _ _ _ h.f (blk_ne h.f h.a (by decide)), a := ?_, b := hk _ _ _ h.b (fun e => h.hab e.symm), la := by simp [h.la], ma := fun i c s q1 q2 => ?_, mb := fun i c s q1 q2 => hm _ _ (h.mb i c s q1 q2), nd := ?_, fr := hk _ _ _ h.fr (blk_ne h.fr h.a (by decide)), rf := ⟨h.rf.1, fun i u p q1 q2 => ?_⟩, w := hk _ _ _ h.w (blk_ne h.w h.a (by decide)), lm := fun c hc => ?_ }
  · have := blk_setSame h.a bA.length (.map (some b))
    rwa [setsV_push hl] at this
  · by_cases hi : i < A.length
    · rw [List.getElem?_append_left (by rw [h.la]; exact hi)] at q1
      rw [List.getElem?_append_left hi] at q2
      exact hm _ _ (h.ma i c s q1 q2)
    · rw [List.getElem?_append_right (by omega)] at q2
      have h0 : i - A.length = 0 := by
        have := (List.getElem?_eq_some_iff.1 q2).1
        simp at this
        omega
      rw [List.getElem?_append_right (by rw [h.la]; omega), h.la, h0] at q1
      rw [h0] at q2
      simp at q1 q2
      subst q1
      subst q2
      exact hm _ _ hb
  · rw [List.append_assoc, List.nodup_append]
    refine ⟨hab.1, ?_, fun x hx y hy e => ?_⟩
    · rw [List.nodup_append]
      exact ⟨by simp, hab.2.1, fun x hx y hy e => by simp at hx; subst hx; subst e; exact hn.2 hy⟩
    · subst e
      rcases List.mem_append.1 hy with hy | hy
      · simp at hy; subst hy; exact hn.1 hx
      · exact hab.2.2 x hx x hy rfl
  · exact own_grown (h.rf.2 i u p q1 q2) hg (fun g hgg e => by
      obtain ⟨cur, hk⟩ := own_blk (h.rf.2 i u p q1 q2) hgg
      injection e with e
      exact blk_ne h.a hk (by decide) e)
  · rw [List.append_assoc, List.mem_append, List.mem_append] at hc
    rcases hc with hc | hc | hc
    · exact h.lm c (List.mem_append_left _ hc)
    · simp at hc; rw [hc]; exact hlb
    · exact h.lm c (List.mem_append_right _ hc)
theorem LkM.addB (h : LkM w n base bR gF gA gB gFr gW rv bA bB A B vF F wt) (hl : bB.length < n) {b : Nat} (hb : IM w b []) (hn : b ∉ bA ++ bB) (hlb : base ≤ b) :
    LkM (w.setCell ⟨gB, bB.length, none⟩ (.map (some b))) n base bR gF gA gB gFr gW rv bA (bB ++ [b]) A (B ++ [[]]) vF F wt := by
  have hg := grown_setCell w gB bB.length (.map (some b))
  have hk : ∀ g t cs, Blk w g t cs → g ≠ gB → Blk (w.setCell ⟨gB, bB.length, none⟩ (.map (some b))) g t cs := fun g t cs hb hne => hb.grown hg (fun e => by injection e with e; exact hne e.symm)
  have hm : ∀ c m, IM w c m → IM (w.setCell ⟨gB, bB.length, none⟩ (.map (some b))) c m := fun c m hc => hc.grown hg (fun e => by injection e with e; exact hc.blk_ne h.b e.symm)
  have hab := List.nodup_append.1 h.nd
  rw [List.mem_append, not_or] at hn
  refine { h with r := hk _ _ _ h.r (blk_ne h.r h.b (by decide)), f := hk _ _ _ h.f (blk_ne h.f h.b (by decide)), b := ?_, a := hk _ _ _ h.a h.hab, lb := by simp [h.lb], mb := fun i c s q1 q2 => ?_, ma := fun i c s q1 q2 => hm _ _ (h.ma i c s q1 q2), nd := ?_, fr := hk _ _ _ h.fr (blk_ne h.fr h.b (by decide)), rf := ⟨h.rf.1, fun i u p q1 q2 => ?_⟩, w := hk _ _ _ h.w (blk_ne h.w h.b (by decide)), lm := fun c hc => ?_ }
  · have := blk_setSame h.b bB.length (.map (some b))
    rwa [setsV_push hl] at this
  · by_cases hi : i < B.length
    · rw [List.getElem?_append_left (by rw [h.lb]; exact hi)] at q1
      rw [List.getElem?_append_left hi] at q2
      exact hm _ _ (h.mb i c s q1 q2)
    · rw [List.getElem?_append_right (by omega)] at q2
      have h0 : i - B.length = 0 := by
        have := (List.getElem?_eq_some_iff.1 q2).1
        simp at this
        omega
      rw [List.getElem?_append_right (by rw [h.lb]; omega), h.lb, h0] at q1
      rw [h0] at q2
      simp at q1 q2
      subst q1
      subst q2
      exact hm _ _ hb
  · rw [← List.append_assoc, List.nodup_append]
    refine ⟨h.nd, by simp, fun x hx y hy e => ?_⟩
    simp at hy
    subst hy
    subst e
    rcases List.mem_append.1 hx with hx | hx
    · exact hn.1 hx
    · exact hn.2 hx
  · exact own_grown (h.rf.2 i u p q1 q2) hg (fun g hgg e => by
      obtain ⟨cur, hk⟩ := own_blk (h.rf.2 i u p q1 q2) hgg
      injection e with e
      exact blk_ne h.b hk (by decide) e)
  · rw [← List.append_assoc, List.mem_append] at hc
    rcases hc with hc | hc
    · exact h.lm c hc
    · simp at hc; rw [hc]; exact hlb
/-- a number is put behind one of the rows of those that come ahead -/
theorem LkM.pushF (h : LkM w n base bR gF gA gB gFr gW rv bA bB A B vF F wt) {v : Value} {m : Nat} {xs : List Value} (hd : DJ vF v) (ho : w.ownsRow base 3 1 v m xs) {k : Nat} {u u' : Value} {l : List Int} {x : Int} (hu : vF[k]? = some u) (hl : F[k]? = some l) (hg : w.grownBy w' u.ownBlock)
    (hu' : w'.ownsRow base 3 1 u' (l.length + 1) (i64s (l ++ [x]))) (hv : u'.ownBlock = u.ownBlock ∨ u'.ownBlock = some w.heap.size) :
    LkM (w'.setCell ⟨gFr, k, none⟩ u') n base bR gF gA gB gFr gW rv bA bB A B (vF.set k u') (F.set k (l ++ [x])) wt ∧ DJ (vF.set k u') v ∧ (w'.setCell ⟨gFr, k, none⟩ u').ownsRow base 3 1 v m xs := by
  have hou := h.rf.2 k u l hu hl
  have hn1 : ∀ g t cs, Blk w g t cs → t ≠ 3 → u.ownBlock ≠ some g := fun g t cs hb ht => own_ne hou hb (fun e => ht e.symm)
  have hn2 : ∀ b m, IM w b m → u.ownBlock ≠ some b := fun b m hb => hb.own_ne hou
  have k0 := h.fr.grown hg (hn1 _ _ _ h.fr (by decide))
  have gk := grown_setCell w' gFr k u'
  have tr : ∀ g t cs, Blk w g t cs → t ≠ 3 → g ≠ gFr → Blk (w'.setCell ⟨gFr, k, none⟩ u') g t cs := fun g t cs hb ht hne => (hb.grown hg (hn1 g t cs hb ht)).grown gk (fun e => by injection e with e; exact hne e.symm)
  have tm : ∀ b m, IM w b m → IM (w'.setCell ⟨gFr, k, none⟩ u') b m := fun b m hb => (hb.grown hg (hn2 b m hb)).grown gk (fun e => by injection e with e; exact (hb.grown hg (hn2 b m hb)).blk_ne k0 e.symm)
  have hlt : ∀ a p xs, w.ownsRow base 3 1 a p xs → ∀ g, a.ownBlock = some g → g < w.heap.size := fun a p xs ha g hga => (ha.lt g hga).2
  have to : ∀ a p xs, w.ownsRow base 3 1 a p xs → (∀ g, a.ownBlock = some g → u.ownBlock ≠ some g) → (w'.setCell ⟨gFr, k, none⟩ u').ownsRow base 3 1 a p xs := fun a p xs ha hne => by
    have h1 := own_grown ha hg (fun g hga => hne g hga)
    exact own_other h1 (own_ne h1 k0 (by decide))
  refine ⟨{ h with r := tr _ _ _ h.r (by decide) (blk_ne h.r h.fr (by decide)), f := tr _ _ _ h.f (by decide) (blk_ne h.f h.fr (by decide)), a := tr _ _ _ h.a (by decide) (blk_ne h.a h.fr (by decide)), b := tr _ _ _ h.b (by decide) (blk_ne h.b h.fr (by decide)), w := tr _ _ _ h.w (by decide) (blk_ne h.w h.fr (by decide)),
                    ma := fun i b s q1 q2 => tm _ _ (h.ma i b s q1 q2), mb := fun i b s q1 q2 => tm _ _ (h.mb i b s q1 q2), fr := ?_, rf := ⟨by simp [h.rf.1], fun i a p q1 q2 => ?_⟩ }, ⟨fun i j a b g hij q1 q2 q3 => ?_, fun a ha g hga => ?_⟩, to v m xs ho (fun g hg1 e => hd.2 u (List.mem_of_getElem? hu) g e hg1)⟩
  · have := blk_setSame k0 k u'
    have e1 : vF.toArray.setIfInBounds k u' = (vF.set k u').toArray := by simp
    rwa [e1] at this
  · rcases set_get q1 with ⟨e, e2, _⟩ | ⟨e, e2⟩
    · subst e
      subst e2
      rcases set_get q2 with ⟨_, e4, _⟩ | ⟨e3, _⟩
      · subst e4
        have e5 : (l ++ [x]).length = l.length + 1 := by simp
        rw [e5]
        exact own_other hu' (own_ne hu' k0 (by decide))
      · exact absurd rfl e3
    · rw [List.getElem?_set_ne e] at q2
      exact to a _ _ (h.rf.2 i a p e2 q2) (fun g hga e3 => hd.1 i k a u g (fun e4 => e e4.symm) e2 hu hga e3)
  · rcases set_get q1 with ⟨e, e2, _⟩ | ⟨e, e2⟩
    · subst e
      subst e2
      rcases set_get q2 with ⟨e3, _, _⟩ | ⟨e3, e4⟩
      · exact absurd e3 hij
      · rcases hv with hv | hv
        · exact hd.1 k j u b g hij hu e4 (by rw [← hv]; exact q3)
        · intro e5
          rw [hv] at q3
          injection q3 with q3
          obtain ⟨p, hp⟩ : ∃ p, F[j]? = some p := ⟨_, List.getElem?_eq_getElem (by rw [← h.rf.1]; exact (List.getElem?_eq_some_iff.1 e4).1)⟩
          have := hlt b _ _ (h.rf.2 j b p e4 hp) g e5
          omega
    · rcases set_get q2 with ⟨e3, e4, _⟩ | ⟨e3, e4⟩
      · subst e3
        subst e4
        rcases hv with hv | hv
        · rw [hv]; exact hd.1 i k a u g hij e2 hu q3
        · rw [hv]
          intro e5
          injection e5 with e5
          obtain ⟨p, hp⟩ : ∃ p, F[i]? = some p := ⟨_, List.getElem?_eq_getElem (by rw [← h.rf.1]; exact (List.getElem?_eq_some_iff.1 e2).1)⟩
          have := hlt a _ _ (h.rf.2 i a p e2 hp) g q3
          omega
      · exact hd.1 i j a b g hij e2 e4 q3
  · rcases List.mem_or_eq_of_mem_set ha with ha | ha
    · exact hd.2 a ha g hga
    · subst ha
      rcases hv with hv | hv
      · exact hd.2 u (List.mem_of_getElem? hu) g (by rw [← hv]; exact hga)
      · rw [hv] at hga
        injection hga with hga
        intro e
        have := hlt v _ _ ho g e
        omega
end
end Go.Proofs.Ytkfnnmdghibjbaa
