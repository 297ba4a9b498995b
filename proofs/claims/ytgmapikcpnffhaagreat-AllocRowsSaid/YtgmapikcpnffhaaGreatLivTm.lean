/-
 Tables of truth values in memory: rows of one's own, no two of them in one block.
 Conditions: none.
-/
import Derived.Test.YtgmapikcpnffhaaGreatLivTb
import Derived.Test.YtgmapikcpnffhaaGreatLivLk2
import Derived.Test.YtgmapikcpnffhaaGreatLivRCk2
namespace Go.Bk.Liv
open Go Go.RowKit Go.Bk
set_option linter.unusedVariables false
set_option linter.unusedSimpArgs false
theorem boolsV_len (l : List Bool) : (boolsV l).length = l.length := by simp [boolsV]
theorem rowV_len (n : Nat) (f : Nat → Bool) : (boolsV (rowOf n f)).length = n := by rw [boolsV_len, rowOf_len]
theorem rowV_get {n : Nat} {f : Nat → Bool} {i : Nat} (h : i < n) : (boolsV (rowOf n f))[i]? = some (.bool (f i)) := by
 unfold boolsV
 rw [List.getElem?_map, rowOf_get h]
 rfl
/-- a block that holds a row of truth values -/
def RB (t : TypeId) (w : World) (g n : Nat) (f : Nat → Bool) : Prop := Blk w g t (boolsV (rowOf n f)).toArray
theorem RB.cell {t : TypeId} {w : World} {g n i : Nat} {f : Nat → Bool} (h : RB t w g n f) (hi : i < n) : w.cell? ⟨g, i, none⟩ = some (.bool (f i)) := by
 have := Blk.cell h i
 rw [this, List.getElem?_toArray]
 exact rowV_get hi
theorem RB.congr {t : TypeId} {w : World} {g n : Nat} {f f' : Nat → Bool} (h : RB t w g n f) (he : ∀ i, i < n → f i = f' i) : RB t w g n f' := by
 unfold RB at h ⊢
 rwa [rowOf_congr he] at h
theorem RB.set {t : TypeId} {w : World} {g n : Nat} {f : Nat → Bool} (h : RB t w g n f) (i : Nat) (b : Bool) : RB t (w.setCell ⟨g, i, none⟩ (.bool b)) g n (fun j => if j = i then b else f j) := by
 have := heap_setCell_same w g i _ t (.bool b) h
 unfold RB Blk
 rw [this, ← rowOf_set]
 simp [boolsV, List.map_set]
theorem RB.new {t : TypeId} (w : World) {N n : Nat} (b : Bool) (h : w.heap.size = N) : RB t (w.alloc (.cells (Array.replicate n (.bool b)) t)) N n (fun _ => b) := by
 unfold RB
 rw [← rowOf_rep]
 have e : (boolsV (List.replicate n b)).toArray = Array.replicate n (.bool b) := by simp [boolsV]
 rw [e]
 exact Blk.newAt w t _ h
theorem RB.below {t : TypeId} {w w' : World} {B g n : Nat} {f : Nat → Bool} (h : RB t w g n f) (hb : Below B w w') (hB : g < B) : RB t w' g n f := Blk.below h hb hB
theorem RB.keep {t : TypeId} {w w' : World} {g n : Nat} {f : Nat → Bool} (h : RB t w g n f) (hb : Below w.heap.size w w') : RB t w' g n f := Blk.below h hb h.lt
theorem RB.src {t : TypeId} {w : World} {g n : Nat} {f : Nat → Bool} (h : RB t w g n f) : Src w (some ⟨g, 0, none⟩) n (boolsV (rowOf n f)) := by
 have := Blk.srcAll h (n := n) (by simp [rowV_len])
 simpa using this
/-- a value read in a row of truth values -/
theorem src_bool {w : World} {A : Option Addr} {n i : Nat} {f : Nat → Bool} (h : Src w A n (boolsV (rowOf n f))) (hi : i < n) : ∃ b o, A = some ⟨b, o, none⟩ ∧ b < w.heap.size ∧ w.cell? ⟨b, o + i, none⟩ = some (.bool (f i)) := by
 obtain ⟨b, o, rfl, hb⟩ := h.addr (by omega)
 have := h.at_ hi
 have e := (List.getElem?_eq_some_iff.1 (rowV_get (f := f) hi)).2
 rw [e] at this
 exact ⟨b, o, rfl, hb, this⟩
/-- a table that is read -/
def TB (w : World) (v : Value) (n P : Nat) (T : Nat → Nat → Bool) : Prop := ∃ A c vs, v = .slice A n c ∧ Src w A n vs ∧ ∀ (i : Nat) u, vs[i]? = some u → ∃ B k, u = .slice B P k ∧ Src w B P (boolsV (rowOf P (T i)))
theorem TB.below {w w' : World} {B n P : Nat} {v : Value} {T : Nat → Nat → Bool} (h : TB w v n P T) (hb : Below B w w') (hB : w.heap.size ≤ B) : TB w' v n P T := by
 obtain ⟨A, c, vs, e, h1, h2⟩ := h
 refine ⟨A, c, vs, e, h1.below hb hB, fun i u hu => ?_⟩
 obtain ⟨C, k, e2, h3⟩ := h2 i u hu
 exact ⟨C, k, e2, h3.below hb hB⟩
theorem TB.shape {w : World} {n P : Nat} {v : Value} {T : Nat → Nat → Bool} (h : TB w v n P T) : ∃ A c, v = .slice A n c := by
 obtain ⟨A, c, vs, e, _⟩ := h
 exact ⟨A, c, e⟩
theorem TB.row {w : World} {A : Option Addr} {n c P i : Nat} {T : Nat → Nat → Bool} (h : TB w (.slice A n c) n P T) (hi : i < n) : ∃ b o C k, A = some ⟨b, o, none⟩ ∧ b < w.heap.size ∧ w.cell? ⟨b, o + i, none⟩ = some (.slice C P k) ∧ Src w C P (boolsV (rowOf P (T i))) := by
 obtain ⟨A', c', vs, e, h1, h2⟩ := h
 injection e with e1 e2 e3
 subst e1
 obtain ⟨b, o, rfl, hb⟩ := h1.addr (by omega)
 have hc := h1.at_ hi
 have hvi : i < vs.length := by rw [h1.1]; exact hi
 obtain ⟨C, k, e, hr⟩ := h2 i _ (List.getElem?_eq_getElem hvi)
 rw [e] at hc
 exact ⟨b, o, C, k, rfl, hb, hc, hr⟩
theorem TB.congr {w : World} {n P : Nat} {v : Value} {T T' : Nat → Nat → Bool} (h : TB w v n P T) (he : ∀ i p, i < n → p < P → T i p = T' i p) : TB w v n P T' := by
 obtain ⟨A, c, vs, e, h1, h2⟩ := h
 refine ⟨A, c, vs, e, h1, fun i u hu => ?_⟩
 obtain ⟨B, k, e2, h3⟩ := h2 i u hu
 have hi : i < n := by rw [← h1.1]; exact (List.getElem?_eq_some_iff.1 hu).1
 rw [rowOf_congr (fun p hp => he i p hi hp)] at h3
 exact ⟨B, k, e2, h3⟩

theorem nodup_set {l : List Nat} {i g : Nat} (h : l.Nodup) (hn : ∀ x ∈ l, x ≠ g) : (l.set i g).Nodup := by
 rw [List.Nodup, List.pairwise_iff_getElem]
 intro a b ha hb hab
 rw [List.length_set] at ha hb
 rw [List.getElem_set, List.getElem_set]
 split
 ·split
  ·omega
  ·intro e
   exact hn _ (List.getElem_mem hb) e.symm
 ·split
  ·intro e
   exact hn _ (List.getElem_mem ha) e
  ·exact List.pairwise_iff_getElem.1 h a b ha hb hab
def rowsV (gs : List Nat) (P : Nat) : List Value := gs.map fun g => .slice (some ⟨g, 0, none⟩) P P
theorem rowsV_len (gs : List Nat) (P : Nat) : (rowsV gs P).length = gs.length := by simp [rowsV]
theorem rowsV_get {gs : List Nat} {P i g : Nat} (h : gs[i]? = some g) : (rowsV gs P)[i]? = some (.slice (some ⟨g, 0, none⟩) P P) := by simp [rowsV, h]
end Go.Bk.Liv
namespace Go.Proofs.YtgmapikcpnffhaaGreat
open Go.RowKit Go.Bk Go.Bk.Liv
set_option linter.unusedVariables false
set_option linter.unusedSimpArgs false
/-- a table of one's own -/
structure TM (w : World) (base : Nat) (v : Value) (n P : Nat) (T : Nat → Nat → Bool) (gs : List Nat) : Prop where
 own : w.ownsRow base 24 1 v n (rowsV gs P)
 len : gs.length = n
 nd : gs.Nodup
 rows : ∀ (i g : Nat), gs[i]? = some g → base ≤ g ∧ RB 4 w g P (T i)
section
variable {w w' : World} {base n P : Nat} {v : Value} {T : Nat → Nat → Bool} {gs : List Nat}
theorem TM.nil (w : World) (base P : Nat) (T : Nat → Nat → Bool) : TM w base (.slice none 0 0) 0 P T [] :=
 ⟨World.ownsRow_nil _ _ _ _, rfl, by simp, fun i g h => by simp at h⟩
theorem TM.below (h : TM w base v n P T gs) (hb : Below w.heap.size w w') : TM w' base v n P T gs :=
 ⟨own_below h.own hb (Nat.le_refl _), h.len, h.nd, fun i g hg => ⟨(h.rows i g hg).1, (h.rows i g hg).2.keep hb⟩⟩
theorem TM.alloc (h : TM w base v n P T gs) (o : Obj) : TM (w.alloc o) base v n P T gs := h.below ((Below.refl _ _).alloc (Nat.le_refl _) _)
theorem TM.drew (h : TM w base v n P T gs) : TM w.drew base v n P T gs := ⟨h.own, h.len, h.nd, h.rows⟩
theorem TM.drewN (h : TM w base v n P T gs) (k : Nat) : TM (w.drewN k) base v n P T gs := ⟨h.own, h.len, h.nd, h.rows⟩
theorem TM.mono {base' : Nat} (h : TM w base v n P T gs) (hb : base' ≤ base) : TM w base' v n P T gs :=
 ⟨own_mono h.own hb, h.len, h.nd, fun i g hg => ⟨by have := (h.rows i g hg).1; omega, (h.rows i g hg).2⟩⟩
theorem TM.congr {T' : Nat → Nat → Bool} (h : TM w base v n P T gs) (he : ∀ i p, i < n → p < P → T i p = T' i p) : TM w base v n P T' gs :=
 ⟨h.own, h.len, h.nd, fun i g hg => ⟨(h.rows i g hg).1, (h.rows i g hg).2.congr fun p hp => he i p (by rw [← h.len]; exact (List.getElem?_eq_some_iff.1 hg).1) hp⟩⟩
theorem TM.shape (h : TM w base v n P T gs) : ∃ A c, v = .slice A n c := by
 obtain ⟨A, c, e, _⟩ := own_shape h.own
 exact ⟨A, c, e⟩
theorem TM.tb (h : TM w base v n P T gs) : TB w v n P T := by
 obtain ⟨A, c, e, _⟩ := own_shape h.own
 subst e
 refine ⟨A, c, rowsV gs P, rfl, Bk.Src.of_own h.own, fun i u hu => ?_⟩
 have hi : i < gs.length := by rw [← rowsV_len gs P]; exact (List.getElem?_eq_some_iff.1 hu).1
 have hg := List.getElem?_eq_getElem hi
 rw [rowsV_get hg] at hu
 injection hu with hu
 subst hu
 exact ⟨_, _, rfl, (h.rows i _ hg).2.src⟩
/-- where its rows lie -/
theorem TM.at_ (h : TM w base v n P T gs) (hn : 0 < n) : ∃ gT c, v = .slice (some ⟨gT, 0, none⟩) n c ∧ base ≤ gT ∧ gT < w.heap.size ∧ (∀ i, w.frozen? ⟨gT, i, none⟩ = false) ∧ (∀ i g, gs[i]? = some g → w.cell? ⟨gT, i, none⟩ = some (.slice (some ⟨g, 0, none⟩) P P)) ∧ (∀ g ∈ gs, g ≠ gT) := by
 obtain ⟨gT, c, rfl, h1, h2, _⟩ := own_at h.own (by omega)
 obtain ⟨cur, hk⟩ := own_blk h.own (g := gT) rfl
 refine ⟨gT, c, rfl, h2, h1, fun i => frz hk i, fun i g hg => ?_, fun g hg e => ?_⟩
 ·have hi : i < n := by rw [← h.len]; exact (List.getElem?_eq_some_iff.1 hg).1
  have := h.own.cellAt i (by omega)
  rw [rowsV_get hg] at this
  exact this
 ·subst e
  obtain ⟨i, hi⟩ := List.mem_iff_getElem?.1 hg
  exact blk_ne hk (show Blk w g 4 _ from (h.rows i g hi).2) (by decide) rfl
/-- a row is laid behind the others -/
theorem TM.push {v' : Value} {g : Nat} {f : Nat → Bool} (h : TM w base v n P T gs) (hg : RB 4 w g P f) (hb : base ≤ g) (hn : ∀ x ∈ gs, x ≠ g) (ho : w'.ownsRow base 24 1 v' (n + 1) (rowsV gs P ++ [.slice (some ⟨g, 0, none⟩) P P])) (hgr : w.grownBy w' v.ownBlock) :
  TM w' base v' (n + 1) P (upd T n f) (gs ++ [g]) := by
 have key : ∀ g f, RB 4 w g P f → RB 4 w' g P f := fun g f hh => Blk.grown hh hgr (own_ne h.own hh (by decide))
 refine ⟨by rw [show rowsV (gs ++ [g]) P = rowsV gs P ++ [.slice (some ⟨g, 0, none⟩) P P] by simp [rowsV]]; exact ho, by simp [h.len], ?_, fun i x hx => ?_⟩
 ·rw [List.nodup_append]
  exact ⟨h.nd, by simp, fun a ha b hb e => by simp at hb; subst hb; exact hn a ha e⟩
 ·by_cases hi : i < gs.length
  ·rw [List.getElem?_append_left hi] at hx
   have := h.rows i x hx
   rw [upd_other (by have := h.len; omega)]
   exact ⟨this.1, key _ _ this.2⟩
  ·rw [List.getElem?_append_right (by omega)] at hx
   have h0 : i - gs.length = 0 := by
    have := (List.getElem?_eq_some_iff.1 hx).1
    simp at this
    omega
   rw [h0] at hx
   simp at hx
   subst hx
   have : i = n := by have := h.len; omega
   subst this
   rw [upd_same]
   exact ⟨hb, key _ _ hg⟩
/-- a row is put in another's place -/
theorem TM.put {gT c i g : Nat} {f : Nat → Bool} (h : TM w base (.slice (some ⟨gT, 0, none⟩) n c) n P T gs) (hg : RB 4 w g P f) (hb : base ≤ g) (hn : ∀ x ∈ gs, x ≠ g) :
  TM (w.setCell ⟨gT, i, none⟩ (.slice (some ⟨g, 0, none⟩) P P)) base (.slice (some ⟨gT, 0, none⟩) n c) n P (upd T i f) (gs.set i g) := by
 obtain ⟨cur, hk⟩ := own_blk h.own (g := gT) rfl
 have key : ∀ g f, RB 4 w g P f → RB 4 (w.setCell ⟨gT, i, none⟩ (.slice (some ⟨g, 0, none⟩) P P)) g P f := fun g f hh => blk_other hh (blk_ne hh hk (by decide))
 have key2 : ∀ x g f, RB 4 w g P f → RB 4 (w.setCell ⟨gT, i, none⟩ x) g P f := fun x g f hh => blk_other hh (blk_ne hh hk (by decide))
 refine ⟨?_, by rw [List.length_set]; exact h.len, ?_, fun j x hx => ?_⟩
 ·have := (h.own.stored i (.slice (some ⟨g, 0, none⟩) P P)).1
  have e : (rowsV gs P).set i (.slice (some ⟨g, 0, none⟩) P P) = rowsV (gs.set i g) P := by simp [rowsV, List.map_set]
  rw [e] at this
  exact this
 ·exact nodup_set h.nd hn
 ·rcases set_get hx with ⟨e, e2, _⟩ | ⟨e, e2⟩
  ·subst e
   subst e2
   rw [upd_same]
   exact ⟨hb, key2 _ _ _ hg⟩
  ·rw [upd_other (fun e3 => e e3.symm)]
   have := h.rows j x e2
   exact ⟨this.1, key2 _ _ _ this.2⟩
/-- one cell is written -/
theorem TM.setAt {i g p : Nat} {b : Bool} (h : TM w base v n P T gs) (hg : gs[i]? = some g) : TM (w.setCell ⟨g, p, none⟩ (.bool b)) base v n P (upd T i (fun q => if q = p then b else T i q)) gs := by
 have hr := h.rows i g hg
 refine ⟨own_other h.own (own_ne h.own hr.2 (by decide)), h.len, h.nd, fun j x hx => ?_⟩
 by_cases e : j = i
 ·subst e
  rw [hg] at hx
  injection hx with hx
  subst hx
  rw [upd_same]
  exact ⟨hr.1, hr.2.set p b⟩
 ·rw [upd_other e]
  have := h.rows j x hx
  refine ⟨this.1, blk_other this.2 (fun e2 => e ?_)⟩
  subst e2
  exact nodup_at h.nd hx hg
end
end Go.Proofs.YtgmapikcpnffhaaGreat
