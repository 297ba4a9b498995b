/-
  The document's table of clashes in memory, and how a clash is put into it.
  Conditions: none.
-/
import Derived.Test.YtkfnnmdghibjbaaLivRAh
import Derived.Test.YtkfnnmdghibjbaaLivTk
import Derived.BigRegion
namespace Go.Bk.Liv
open Go Go.RowKit Go.Bk
set_option linter.unusedVariables false
set_option linter.unusedSimpArgs false
theorem own_kept {S : List Nat} {w w' : World} {base n size : Nat} {e : TypeId} {v : Value} {xs : List Value} (h : w.ownsRow base e size v n xs) (hk : KeptBut S w w') (hS : ∀ g, v.ownBlock = some g → g ∉ S) : w'.ownsRow base e size v n xs := by
  refine ⟨h.1, ?_⟩
  rcases h.2 with h2 | ⟨g, cap, cur, rfl, h2, hh, r⟩
  · exact .inl h2
  · exact .inr ⟨g, cap, cur, rfl, h2, blk_kept (show Blk w g e cur from hh) hk (hS g rfl), r⟩
theorem KeptBut.drewN (S : List Nat) (w : World) (n : Nat) : KeptBut S w (w.drewN n) := ⟨Nat.le_refl _, fun _ _ _ => rfl⟩
end Go.Bk.Liv
namespace Go.Proofs.Ytkfnnmdghibjbaa
open Go.RowKit Go.Bk Go.Bk.Liv
set_option linter.unusedVariables false
set_option linter.unusedSimpArgs false
theorem kept_setCell {S : List Nat} {w : World} {g i : Nat} (u : Value) (hg : g ∈ S) : KeptBut S w (w.setCell ⟨g, i, none⟩ u) := KeptBut.grown (grown_setCell w g i u) hg
theorem Told.kept {S : List Nat} {w w' : World} {base n : Nat} {v : Value} {Q : Nat → Int → Prop} (h : Told w base v n Q) (hk : KeptBut S w w') (hS : ∀ g ∈ S, ∃ cs, Blk w g 4 cs) : Told w' base v n Q := by
  obtain ⟨vs, P, h1, h2, h3, h4⟩ := h
  have no : ∀ {e : TypeId} {base n : Nat} {v : Value} {xs : List Value}, w.ownsRow base e 1 v n xs → e ≠ 4 → ∀ g, v.ownBlock = some g → g ∉ S := by
    intro e base n v xs ho he g hg hin
    obtain ⟨cs, hb⟩ := hS g hin
    exact own_ne ho hb he hg
  exact ⟨vs, P, own_kept h1 hk (no h1 (by decide)), ⟨h2.1, fun i u p q1 q2 => own_kept (h2.2 i u p q1 q2) hk (no (h2.2 i u p q1 q2) (by decide))⟩, h3, h4⟩
/-- the first of told lists, in memory -/
theorem Told.first {w : World} {base n : Nat} {A : Option Addr} {c i : Nat} {Q : Nat → Int → Prop} {p : List Int} (h : Told w base (.slice A n c) n Q) (hn : i < n) (hp : IsSet p (Q i)) : ∃ b o B k, A = some ⟨b, o, none⟩ ∧ b < w.heap.size ∧ w.cell? ⟨b, o + i, none⟩ = some (.slice B p.length k) ∧ IR w (.slice B p.length k) p := by
  obtain ⟨P, hl, hlen, hs⟩ := h.lists
  obtain ⟨q, hq⟩ : ∃ q, P[i]? = some q := ⟨_, List.getElem?_eq_getElem (by omega)⟩
  have e := IsSet.one (hs i q hq) hp
  subst e
  exact hl.at hq
theorem Told.get {w : World} {base n i : Nat} {v : Value} {Q : Nat → Int → Prop} (h : Told w base v n Q) (hn : i < n) : ∃ p, IsSet p (Q i) := by
  obtain ⟨P, hl, hlen, hs⟩ := h.lists
  exact ⟨_, hs i _ (List.getElem?_eq_getElem (by omega))⟩
theorem Told.shape {w : World} {base n : Nat} {v : Value} {Q : Nat → Int → Prop} (h : Told w base v n Q) : ∃ A c, v = .slice A n c := by
  obtain ⟨vs, P, h1, _⟩ := h
  obtain ⟨A, c, e, _⟩ := own_shape h1
  exact ⟨A, c, e⟩
/-- the table of clashes -/
structure KM (w1 w : World) (gC : Nat) (v : Value) (n P : Nat) (T : Nat → Nat → Bool) (gs : List Nat) : Prop where
  t : TM w w1.heap.size v n P T gs
  c : Blk w gC 68 #[v]
  lo : w1.heap.size ≤ gC
  b : Below w1.heap.size w1 w
section
variable {w1 w w' : World} {gC n P : Nat} {v : Value} {T : Nat → Nat → Bool} {gs : List Nat}
theorem KM.keep (h : KM w1 w gC v n P T gs) (hb : Below w.heap.size w w') : KM w1 w' gC v n P T gs := ⟨h.t.below hb, h.c.below hb h.c.lt, h.lo, h.b.trans (hb.mono h.b.size)⟩
theorem KM.alloc (h : KM w1 w gC v n P T gs) (o : Obj) : KM w1 (w.alloc o) gC v n P T gs := h.keep ((Below.refl _ _).alloc (Nat.le_refl _) _)
theorem KM.drewN (h : KM w1 w gC v n P T gs) (k : Nat) : KM w1 (w.drewN k) gC v n P T gs := ⟨h.t.drewN k, h.c, h.lo, below_drewN h.b k⟩
theorem KM.congr {T' : Nat → Nat → Bool} (h : KM w1 w gC v n P T gs) (he : ∀ i p, i < n → p < P → T i p = T' i p) : KM w1 w gC v n P T' gs := ⟨h.t.congr he, h.c, h.lo, h.b⟩
theorem KM.bools (h : KM w1 w gC v n P T gs) : ∀ g ∈ gs, ∃ cs, Blk w g 4 cs := fun g hg => by
  obtain ⟨i, hi⟩ := List.mem_iff_getElem?.1 hg
  exact ⟨_, (h.t.rows i g hi).2⟩
theorem KM.notin (h : KM w1 w gC v n P T gs) {g : Nat} {t : TypeId} {cs : Array Value} (hb : Blk w g t cs) (ht : t ≠ 4) : g ∉ gs := fun hin => by
  obtain ⟨cs', hk⟩ := h.bools g hin
  exact blk_ne hb hk ht rfl
theorem KM.set {i g p : Nat} {b : Bool} (h : KM w1 w gC v n P T gs) (hg : gs[i]? = some g) : KM w1 (w.setCell ⟨g, p, none⟩ (.bool b)) gC v n P (upd T i (fun q => if q = p then b else T i q)) gs := by
  have hr := h.t.rows i g hg
  refine ⟨h.t.setAt hg, blk_other h.c (fun e => ?_), h.lo, h.b.setCell (p := ⟨g, p, none⟩) hr.1 _⟩
  have hk := h.c
  rw [e] at hk
  exact absurd (blk_ne hk (show Blk w g 4 _ from hr.2) (by decide)) (fun h => h rfl)
end
/-- with what it holds -/
def RK (r : RowD) (P : Nat) (Req : Rel2) (w1 : World) (gC : Nat) (v : Value) (gs : List Nat) (w : World) : Prop := ∃ T, KM w1 w gC v P P T gs ∧ RS r P Req T
section
variable {r : RowD} {P gC : Nat} {Req Req' : Rel2} {w1 w w' : World} {v : Value} {gs : List Nat}
theorem RK.weak (h : RK r P Req w1 gC v gs w) (hq : ∀ x y, Req' x y → Req x y) : RK r P Req' w1 gC v gs w := by
  obtain ⟨T, h1, h2⟩ := h
  exact ⟨T, h1, h2.weak hq⟩
theorem RK.keep (h : RK r P Req w1 gC v gs w) (hb : Below w.heap.size w w') : RK r P Req w1 gC v gs w' := by
  obtain ⟨T, h1, h2⟩ := h
  exact ⟨T, h1.keep hb, h2⟩
theorem RK.drewN (h : RK r P Req w1 gC v gs w) (k : Nat) : RK r P Req w1 gC v gs (w.drewN k) := by
  obtain ⟨T, h1, h2⟩ := h
  exact ⟨T, h1.drewN k, h2⟩
theorem RK.bel (h : RK r P Req w1 gC v gs w) : Below w1.heap.size w1 w := by
  obtain ⟨T, h1, h2⟩ := h
  exact h1.b
theorem RK.bools (h : RK r P Req w1 gC v gs w) : ∀ g ∈ gs, ∃ cs, Blk w g 4 cs := by
  obtain ⟨T, h1, h2⟩ := h
  exact h1.bools
theorem RK.notin (h : RK r P Req w1 gC v gs w) {g : Nat} {t : TypeId} {cs : Array Value} (hb : Blk w g t cs) (ht : t ≠ 4) : g ∉ gs := by
  obtain ⟨T, h1, h2⟩ := h
  exact h1.notin hb ht
end
def PuPost (w1 : World) (gC : Nat) (v : Value) (P : Nat) (T : Nat → Nat → Bool) (gs : List Nat) (a b : Nat) (w : World) (en : Ending) (w' : World) : Prop := en = .returned (.tuple #[]) ∧ KM w1 w' gC v P P (put2 T a b) gs ∧ KeptBut gs w w'
set_option maxRecDepth 100000 in
set_option maxHeartbeats 4000000 in
theorem put_any (w1 : World) (gC : Nat) (v : Value) (P : Nat) (T : Nat → Nat → Bool) (gs : List Nat) (a b : Nat) (w : World) (h : KM w1 w gC v P P T gs) (ha : a < P) (hb : b < P) : Calls Try.prog 31 #[.pointer (some ⟨gC, 0, none⟩), .int .i64 (a : Int), .int .i64 (b : Int)] w (PuPost w1 gC v P T gs a b w) := by
  by_cases hab : a = b
  · subst hab
    have t1 : ((a : Int) != (a : Int)) = false := by simp
    have HP := Lib.hid (show PuPost w1 gC v P T gs a a w (.returned (.tuple #[])) w from ⟨rfl, by rw [put2_same]; exact h, KeptBut.refl _ _⟩)
    clear h
    go_enter Try.func31, Try.ntmps31
    go_wp2
    go_end0
    exact HP.out
  · have t1 : ((a : Int) != (b : Int)) = true := by simp; omega
    obtain ⟨gT, c, rfl, h1, h2, h3, h4, h5⟩ := h.t.at_ (by omega)
    obtain ⟨ga, hga⟩ : ∃ g, gs[a]? = some g := ⟨_, List.getElem?_eq_getElem (by rw [h.t.len]; exact ha)⟩
    obtain ⟨gb, hgb⟩ : ∃ g, gs[b]? = some g := ⟨_, List.getElem?_eq_getElem (by rw [h.t.len]; exact hb)⟩
    have c0 := h.c.cell 0
    simp at c0
    have y0 := h.c.lt
    have c1 := h4 a ga hga
    have c2 := h4 b gb hgb
    have ra := (h.t.rows a ga hga).2
    have rb := (h.t.rows b gb hgb).2
    have y1 := Blk.lt ra
    have y2 := Blk.lt rb
    have z1 := frz ra b
    have z2 := frz rb a
    have n1 : ga ≠ gb := fun e => hab (nodup_at h.t.nd hga (e ▸ hgb))
    have n2 : gb ≠ ga := fun e => n1 e.symm
    have ca := ra.cell hb
    have cb := rb.cell ha
    have t2 : (a : Int) < P := by omega
    have t3 : (b : Int) < P := by omega
    have HE := Lib.hid (put2_ne (T := T) hab)
    have HA := Lib.hid (show KM w1 ((w.setCell ⟨ga, b, none⟩ (.bool true)).setCell ⟨gb, a, none⟩ (.bool true)) gC (.slice (some ⟨gT, 0, none⟩) P c) P P (put2 T a b) gs by
      rw [HE.out]
      refine ((h.set (p := b) (b := true) hga).set (p := a) (b := true) hgb).congr (fun i p _ _ => ?_)
      unfold upd
      by_cases e : i = b <;> by_cases e2 : i = a <;> by_cases e3 : p = a <;> by_cases e4 : p = b <;> simp_all)
    have HB := Lib.hid (show KM w1 ((w.setCell ⟨gb, a, none⟩ (.bool true)).setCell ⟨ga, b, none⟩ (.bool true)) gC (.slice (some ⟨gT, 0, none⟩) P c) P P (put2 T a b) gs by
      rw [HE.out]
      refine ((h.set (p := a) (b := true) hgb).set (p := b) (b := true) hga).congr (fun i p _ _ => ?_)
      unfold upd
      by_cases e : i = b <;> by_cases e2 : i = a <;> by_cases e3 : p = a <;> by_cases e4 : p = b <;> simp_all)
    have HKA := Lib.hid (((kept_setCell (w := w) (S := gs) (g := ga) (i := b) (.bool true) (List.mem_of_getElem? hga)).trans (kept_setCell (g := gb) (i := a) (.bool true) (List.mem_of_getElem? hgb))))
    have HKB := Lib.hid (((kept_setCell (w := w) (S := gs) (g := gb) (i := a) (.bool true) (List.mem_of_getElem? hgb)).trans (kept_setCell (g := ga) (i := b) (.bool true) (List.mem_of_getElem? hga))))
    clear h h1 h3 h4 h5 hga hgb ra rb hab
    go_enter Try.func31, Try.ntmps31
    go_wp2_with fail
    go_region
    all_goals
      go_wp2
      go_end0
      first
        | exact ⟨rfl, HA.out.drewN _, HKA.out.trans (KeptBut.drewN _ _ _)⟩
        | exact ⟨rfl, HB.out.drewN _, HKB.out.trans (KeptBut.drewN _ _ _)⟩
        | exact ⟨rfl, HA.out.drewN 1, HKA.out.trans (KeptBut.drewN _ _ 1)⟩
        | exact ⟨rfl, HB.out.drewN 1, HKB.out.trans (KeptBut.drewN _ _ 1)⟩
def PkPost (r : RowD) (P : Nat) (Req : Rel2) (w1 : World) (gC : Nat) (v : Value) (gs : List Nat) (a b : Nat) (w : World) (en : Ending) (w' : World) : Prop :=
  en = .returned (.tuple #[]) ∧ (∀ Req' : Rel2, (∀ x y, Req' x y → Req x y ∨ (x = (a : Int) ∧ y = (b : Int))) → RK r P Req' w1 gC v gs w') ∧ KeptBut gs w w'
theorem put_rk (r : RowD) (P : Nat) (Req : Rel2) (w1 : World) (gC : Nat) (v : Value) (gs : List Nat) (a b : Nat) (w : World) (h : RK r P Req w1 gC v gs w) (ha : a < P) (hb : b < P) (hs : Sall r a b) :
    Calls Try.prog 31 #[.pointer (some ⟨gC, 0, none⟩), .int .i64 (a : Int), .int .i64 (b : Int)] w (PkPost r P Req w1 gC v gs a b w) := by
  obtain ⟨T, h1, h2⟩ := h
  exact (put_any w1 gC v P T gs a b w h1 ha hb).mono fun en w' ⟨e, h3, h4⟩ => ⟨e, fun Req' hq => ⟨_, h3, h2.put hs hq⟩, h4⟩
end Go.Proofs.Ytkfnnmdghibjbaa
