/-
 Rows of the call's own that are written over.
 Conditions: none.
-/
import Derived.Test.YtgmapikcpnffhaaGreatATd
namespace Go.Proofs.YtgmapikcpnffhaaGreat
open Go.RowKit Go.Bk Go.Bk.Liv
set_option linter.unusedVariables false
set_option linter.unusedSimpArgs false
theorem blk_type {w : World} {g : Nat} {t t' : TypeId} {cs cs' : Array Value} (h : Blk w g t cs) (h' : Blk w g t' cs') : t = t' := by
 have h : w.heap[g]? = some (.cells cs t (0, 0)) := h
 have h' : w.heap[g]? = some (.cells cs' t' (0, 0)) := h'
 rw [h] at h'
 injection h' with h'
 injection h' with _ h' _
/-- a row of the call's own stays one when a cell of some block is written -/
theorem own_any {w : World} {base G i n k : Nat} {e t : TypeId} {v u : Value} {xs : List Value} {ks : Array Value} (h : w.ownsRow base e k v n xs) (hk : Blk w G t ks) : ∃ xs', (w.setCell ⟨G, i, none⟩ u).ownsRow base e k v n xs' := by
 by_cases hv : v.ownBlock = some G
 ·obtain ⟨hl, hr⟩ := h
  rcases hr with ⟨rfl, rfl⟩ | ⟨g, cap, cur, rfl, hb, hg, h1, h2, h3, h4⟩
  ·exact ⟨xs, hl, .inl ⟨rfl, rfl⟩⟩
  ·have hgG : g = G := by simpa [Value.ownBlock] using hv
   subst hgG
   have hs := blk_setSame (show Blk w g e cur from hg) i u
   refine ⟨(cur.setIfInBounds i u).toList.take (n * k), ?_, .inr ⟨g, cap, cur.setIfInBounds i u, rfl, hb, hs, h1, h2, by simpa using h3, rfl⟩⟩
   have h5 : n * k ≤ cap * k := Nat.mul_le_mul_right k h1
   simp only [List.length_take, Array.length_toList, Array.size_setIfInBounds]
   omega
 ·exact ⟨xs, own_other h hv⟩
/-- one cell of a row of the call's own is written -/
theorem own_setAt {w : World} {base g i n c k : Nat} {e : TypeId} {u : Value} {xs : List Value} (h : w.ownsRow base e k (.slice (some ⟨g, 0, none⟩) n c) n xs) : (w.setCell ⟨g, i, none⟩ u).ownsRow base e k (.slice (some ⟨g, 0, none⟩) n c) n (xs.set i u) := by
 obtain ⟨hl, hr⟩ := h
 rcases hr with ⟨h0, _⟩ | ⟨g', cap, cur, h0, hb, hg, h1, h2, h3, h4⟩
 ·cases h0
 ·injection h0 with h0 e2 e3
  injection h0 with h0
  injection h0 with h0 _ _
  subst h0
  subst e3
  have hs := blk_setSame (show Blk w g e cur from hg) i u
  refine ⟨by simpa using hl, .inr ⟨g, c, cur.setIfInBounds i u, rfl, hb, hs, h1, h2, by simpa using h3, ?_⟩⟩
  rw [Array.toList_setIfInBounds, List.take_set, h4]
/-- an instruction whose places and targets may be written over -/
def CodeW (w : World) (base : Nat) (cs : List Value) (c : CodeD) : Prop := ∃ x y a b d, cs = [x, y, a, b, d] ∧ (∃ xs, w.ownsRow base 3 1 a c.args.length xs) ∧ ∃ xs, w.ownsRow base 3 1 d c.to.length xs
def CodesW (w : World) (base : Nat) (v : Value) (C : List CodeD) : Prop := ∃ vs : List (List Value), w.ownsRow base 48 5 v C.length vs.flatten ∧ vs.length = C.length ∧ ∀ (i : Nat) cs c, vs[i]? = some cs → C[i]? = some c → CodeW w base cs c
theorem CodesW.of {w : World} {base : Nat} {v : Value} {C : List CodeD} (h : CodesO w base v C) {hs : List Int} {C0 : List CodeD} (hC : C = C0.map (toldC hs)) : CodesW w base v C := by
 obtain ⟨vs, h1, h2, h3⟩ := h
 refine ⟨vs, h1, h2, fun i cs c q1 q2 => ?_⟩
 obtain ⟨a, b, d, e, _, k1, k2, k3⟩ := h3 i cs c q1 q2
 exact ⟨_, _, a, b, d, e, ⟨_, k1⟩, ⟨_, k3⟩⟩
theorem CodesW.set {w : World} {base G i : Nat} {v u : Value} {C : List CodeD} {ks : Array Value} (h : CodesW w base v C) (hk : Blk w G 3 ks) : CodesW (w.setCell ⟨G, i, none⟩ u) base v C := by
 obtain ⟨vs, h1, h2, h3⟩ := h
 refine ⟨vs, own_other h1 (own_ne h1 hk (by decide)), h2, fun j cs c q1 q2 => ?_⟩
 obtain ⟨x, y, a, b, d, e, ⟨ys, k1⟩, ⟨zs, k2⟩⟩ := h3 j cs c q1 q2
 exact ⟨x, y, a, b, d, e, own_any k1 hk, own_any k2 hk⟩
theorem CodesW.below {w w' : World} {base : Nat} {v : Value} {C : List CodeD} (h : CodesW w base v C) (hb : Below w.heap.size w w') : CodesW w' base v C := by
 obtain ⟨vs, h1, h2, h3⟩ := h
 refine ⟨vs, own_below h1 hb (Nat.le_refl _), h2, fun j cs c q1 q2 => ?_⟩
 obtain ⟨x, y, a, b, d, e, ⟨ys, k1⟩, ⟨zs, k2⟩⟩ := h3 j cs c q1 q2
 exact ⟨x, y, a, b, d, e, ⟨_, own_below k1 hb (Nat.le_refl _)⟩, ⟨_, own_below k2 hb (Nat.le_refl _)⟩⟩
/-- the cells of one instruction among those of a row -/
theorem flat5 : ∀ (vs : List (List Value)) (i : Nat) (x y a b d : Value), (∀ r ∈ vs, r.length = 5) → vs[i]? = some [x, y, a, b, d] → (vs.flatten)[5 * i]? = some x ∧ (vs.flatten)[5 * i + 1]? = some y ∧ (vs.flatten)[5 * i + 2]? = some a ∧ (vs.flatten)[5 * i + 3]? = some b ∧ (vs.flatten)[5 * i + 4]? = some d
 | [], i, x, y, a, b, d, h, e => by simp at e
 | r :: vs, 0, x, y, a, b, d, h, e => by
  simp at e
  subst e
  simp
 | r :: vs, i + 1, x, y, a, b, d, h, e => by
  have hr := h r (by simp)
  have := flat5 vs i x y a b d (fun r hr => h r (by simp [hr])) (by simpa using e)
  simp only [List.flatten_cons]
  have k : ∀ j, (r ++ vs.flatten)[5 * (i + 1) + j]? = vs.flatten[5 * i + j]? := fun j => by
   rw [List.getElem?_append_right (by omega)]
   congr 1
   omega
  exact ⟨(k 0).trans this.1, (k 1).trans this.2.1, (k 2).trans this.2.2.1, (k 3).trans this.2.2.2.1, (k 4).trans this.2.2.2.2⟩
theorem own_cellN {w : World} {base e' n k g c : Nat} {e : TypeId} {xs : List Value} {u : Value} (h : w.ownsRow base e k (.slice (some ⟨g, 0, none⟩) n c) n xs) (hi : xs[e']? = some u) : w.cell? ⟨g, e', none⟩ = some u := by
 obtain ⟨hl, hr⟩ := h
 rcases hr with ⟨h0, _⟩ | ⟨g', cap, cur, h0, hb, hg, h1, h2, h3, h4⟩
 ·cases h0
 ·injection h0 with h0 e2 e3
  injection h0 with h0
  injection h0 with h0 _ _
  subst h0
  rw [(show Blk w g e cur from hg).cell e', ← Array.getElem?_toList]
  have hj := (List.getElem?_eq_some_iff.1 hi).1
  rw [hl] at hj
  rw [← h4, List.getElem?_take, if_pos hj] at hi
  exact hi
/-- the fifth cell of an instruction is written -/
theorem flat_set : ∀ (vs : List (List Value)) (i j : Nat) (r r' : List Value) (u : Value), (∀ r ∈ vs, r.length = 5) → vs[i]? = some r → j < 5 → r' = r.set j u → (vs.flatten).set (5 * i + j) u = (vs.set i r').flatten
 | [], i, j, r, r', u, h, e, _, _ => by simp at e
 | a :: vs, 0, j, r, r', u, h, e, hj, hr => by
  simp at e
  subst e
  have := h a (by simp)
  simp only [List.flatten_cons, List.set_cons_zero, Nat.mul_zero, Nat.zero_add]
  rw [List.set_append_left _ _ (by omega), hr]
 | a :: vs, i + 1, j, r, r', u, h, e, hj, hr => by
  have ha := h a (by simp)
  have := flat_set vs i j r r' u (fun r hr => h r (by simp [hr])) (by simpa using e) hj hr
  simp only [List.flatten_cons, List.set_cons_succ]
  rw [List.set_append_right _ _ (by omega), show 5 * (i + 1) + j - a.length = 5 * i + j by omega, this]
/-- instructions of which the first k have targets of the call's own -/
def CodesX (w0 w : World) (base : Nat) (v : Value) (C : List CodeD) (k : Nat) : Prop := ∃ vs : List (List Value), w.ownsRow base 48 5 v C.length vs.flatten ∧ vs.length = C.length ∧ ∀ (i : Nat) cs c, vs[i]? = some cs → C[i]? = some c → if i < k then CodeO w base cs c else CodeR w0 w base cs c
theorem CodesX.of {w0 w : World} {base : Nat} {v : Value} {C : List CodeD} (h : CodesR w0 w base v C) : CodesX w0 w base v C 0 := by
 obtain ⟨vs, h1, h2, h3⟩ := h
 exact ⟨vs, h1, h2, fun i cs c q1 q2 => by rw [if_neg (by omega)]; exact h3 i cs c q1 q2⟩
theorem CodesX.done {w0 w : World} {base : Nat} {v : Value} {C : List CodeD} (h : CodesX w0 w base v C C.length) : CodesO w base v C := by
 obtain ⟨vs, h1, h2, h3⟩ := h
 exact ⟨vs, h1, h2, fun i cs c q1 q2 => by
  have := h3 i cs c q1 q2
  rwa [if_pos (List.getElem?_eq_some_iff.1 q2).1] at this⟩
theorem CodeR.below {w0 w w' : World} {base : Nat} {cs : List Value} {c : CodeD} (h : CodeR w0 w base cs c) (hb : Below w.heap.size w w') : CodeR w0 w' base cs c := h.grown (below_grownBy hb) (fun _ _ _ => by simp)
theorem CodeO.below {w w' : World} {base : Nat} {cs : List Value} {c : CodeD} (h : CodeO w base cs c) (hb : Below w.heap.size w w') : CodeO w' base cs c := h.grown (below_grownBy hb) (fun _ _ _ => by simp)
theorem CodesX.below {w0 w w' : World} {base k : Nat} {v : Value} {C : List CodeD} (h : CodesX w0 w base v C k) (hb : Below w.heap.size w w') : CodesX w0 w' base v C k := by
 obtain ⟨vs, h1, h2, h3⟩ := h
 refine ⟨vs, own_below h1 hb (Nat.le_refl _), h2, fun j cs c q1 q2 => ?_⟩
 have := h3 j cs c q1 q2
 by_cases hjk : j < k
 ·rw [if_pos hjk] at this ⊢
  exact this.below hb
 ·rw [if_neg hjk] at this ⊢
  exact this.below hb
theorem CodesX.read {w0 w : World} {base k : Nat} {v : Value} {C : List CodeD} {c : CodeD} (h : CodesX w0 w base v C k) (hc : C[k]? = some c) : ∃ g cap b, v = .slice (some ⟨g, 0, none⟩) C.length cap ∧ base ≤ g ∧ g < w.heap.size ∧ w.cell? ⟨g, 5 * k + 4, none⟩ = some b ∧ Ints w0 b c.to := by
 obtain ⟨vs, h1, h2, h3⟩ := h
 have hk := (List.getElem?_eq_some_iff.1 hc).1
 have hn : C.length ≠ 0 := by omega
 have h1' := h1
 rcases h1.2 with ⟨_, h0⟩ | ⟨g, cap, cur, rfl, hb, hg, _⟩
 ·exact absurd h0 hn
 ·have hv : ∃ cs, vs[k]? = some cs := ⟨_, List.getElem?_eq_getElem (by omega)⟩
  obtain ⟨cs, hcs⟩ := hv
  have h5 : ∀ r ∈ vs, r.length = 5 := fun r hr => by
   obtain ⟨i, hi, rfl⟩ := List.getElem_of_mem hr
   have := h3 i _ _ (List.getElem?_eq_getElem hi) (List.getElem?_eq_getElem (by omega))
   split at this
   ·obtain ⟨a, b, d, e, _⟩ := this
    rw [e]; rfl
   ·obtain ⟨a, b, d, e, _⟩ := this
    rw [e]; rfl
  have := h3 k cs c hcs hc
  rw [if_neg (by omega)] at this
  obtain ⟨a, b, d, e, _, _, _, k3⟩ := this
  subst e
  exact ⟨g, cap, d, rfl, hb, (Array.getElem?_eq_some_iff.1 hg).1, own_cellN h1' (flat5 vs k _ _ _ _ _ h5 hcs).2.2.2.2, k3⟩
theorem CodesX.put {w0 w : World} {base k g cap : Nat} {u : Value} {C : List CodeD} {c : CodeD} (h : CodesX w0 w base (.slice (some ⟨g, 0, none⟩) C.length cap) C k) (hc : C[k]? = some c) (ho : w.ownsRow base 3 1 u c.to.length (i64s c.to)) : CodesX w0 (w.setCell ⟨g, 5 * k + 4, none⟩ u) base (.slice (some ⟨g, 0, none⟩) C.length cap) C (k + 1) := by
 obtain ⟨vs, h1, h2, h3⟩ := h
 have hk := (List.getElem?_eq_some_iff.1 hc).1
 have hv : ∃ cs, vs[k]? = some cs := ⟨_, List.getElem?_eq_getElem (by omega)⟩
 obtain ⟨cs, hcs⟩ := hv
 have h5 : ∀ r ∈ vs, r.length = 5 := fun r hr => by
  obtain ⟨i, hi, rfl⟩ := List.getElem_of_mem hr
  have := h3 i _ _ (List.getElem?_eq_getElem hi) (List.getElem?_eq_getElem (by omega))
  split at this
  ·obtain ⟨a, b, d, e, _⟩ := this
   rw [e]; rfl
  ·obtain ⟨a, b, d, e, _⟩ := this
   rw [e]; rfl
 have hkk := h3 k cs c hcs hc
 rw [if_neg (by omega)] at hkk
 obtain ⟨a, b, d, e, k0, k1, k2, k3⟩ := hkk
 subst e
 obtain ⟨cur, hbg⟩ := own_blk h1 (g := g) rfl
 refine ⟨vs.set k [.int .i64 c.op, .int .u64 (c.n : Int), a, b, u], ?_, by simpa using h2, fun i cs' c' q1 q2 => ?_⟩
 ·have := own_setAt (i := 5 * k + 4) (u := u) h1
  rwa [flat_set vs k 4 _ [.int .i64 c.op, .int .u64 (c.n : Int), a, b, u] u h5 hcs (by omega) rfl] at this
 ·have ni : ∀ {v : Value} {n : Nat} {xs : List Value}, w.ownsRow base 3 1 v n xs → (w.setCell ⟨g, 5 * k + 4, none⟩ u).ownsRow base 3 1 v n xs := fun ho => own_other ho (own_ne ho hbg (by decide))
  by_cases hik : k = i
  ·subst hik
   rw [List.getElem?_set_self (by omega)] at q1
   injection q1 with q1
   subst q1
   rw [hc] at q2
   injection q2 with q2
   subst q2
   rw [if_pos (by omega)]
   exact ⟨a, b, u, rfl, k0, ni k1, ni k2, ni ho⟩
  ·rw [List.getElem?_set_ne hik] at q1
   have := h3 i cs' c' q1 q2
   by_cases hlt : i < k
   ·rw [if_pos hlt] at this
    rw [if_pos (by omega)]
    exact this.other hbg (by decide) u
   ·rw [if_neg hlt] at this
    rw [if_neg (by omega)]
    exact this.other hbg (by decide) u
theorem CodesW.read {w : World} {base k : Nat} {v : Value} {C : List CodeD} {c : CodeD} (h : CodesW w base v C) (hc : C[k]? = some c) : ∃ g cap A m B n, v = .slice (some ⟨g, 0, none⟩) C.length cap ∧ base ≤ g ∧ g < w.heap.size ∧ w.cell? ⟨g, 5 * k + 2, none⟩ = some (.slice A c.args.length m) ∧ w.cell? ⟨g, 5 * k + 4, none⟩ = some (.slice B c.to.length n) ∧ (∃ xs, w.ownsRow base 3 1 (.slice A c.args.length m) c.args.length xs) ∧ ∃ xs, w.ownsRow base 3 1 (.slice B c.to.length n) c.to.length xs := by
 obtain ⟨vs, h1, h2, h3⟩ := h
 have hk := (List.getElem?_eq_some_iff.1 hc).1
 have hn : C.length ≠ 0 := by omega
 have h1' := h1
 rcases h1.2 with ⟨_, h0⟩ | ⟨g, cap, cur, rfl, hb, hg, _⟩
 ·exact absurd h0 hn
 ·have hv : ∃ cs, vs[k]? = some cs := ⟨_, List.getElem?_eq_getElem (by omega)⟩
  obtain ⟨cs, hcs⟩ := hv
  have h5 : ∀ r ∈ vs, r.length = 5 := fun r hr => by
   obtain ⟨i, hi, rfl⟩ := List.getElem_of_mem hr
   obtain ⟨x, y, a, b, d, e, _⟩ := h3 i _ _ (List.getElem?_eq_getElem hi) (List.getElem?_eq_getElem (by omega))
   rw [e]; rfl
  obtain ⟨x, y, a, b, d, e, ⟨xs, k1⟩, ⟨ys, k2⟩⟩ := h3 k cs c hcs hc
  subst e
  obtain ⟨A, m, rfl, _⟩ := own_shape k1
  obtain ⟨B, n, rfl, _⟩ := own_shape k2
  have hf := flat5 vs k _ _ _ _ _ h5 hcs
  exact ⟨g, cap, A, m, B, n, rfl, hb, (Array.getElem?_eq_some_iff.1 hg).1, own_cellN h1' hf.2.2.1, own_cellN h1' hf.2.2.2.2, ⟨_, k1⟩, ⟨_, k2⟩⟩
/-- the block of an own row of numbers, and a cell in it -/
theorem own_in {w : World} {base i n c : Nat} {A : Option Addr} {xs : List Value} (h : w.ownsRow base 3 1 (.slice A n c) n xs) (hi : i < n) : ∃ g u ks, A = some ⟨g, 0, none⟩ ∧ base ≤ g ∧ g < w.heap.size ∧ w.cell? ⟨g, i, none⟩ = some u ∧ Blk w g 3 ks := by
 have h' := h
 rcases h.2 with ⟨_, h0⟩ | ⟨g, cap, cur, e, hb, hg, _⟩
 ·omega
 ·injection e with e e2 e3
  subst e
  subst e3
  obtain ⟨u, hu⟩ : ∃ u, xs[i]? = some u := ⟨_, List.getElem?_eq_getElem (by have := h.1; omega)⟩
  exact ⟨g, u, cur, rfl, hb, (Array.getElem?_eq_some_iff.1 hg).1, own_cellN h' hu, hg⟩
theorem idL_len (P : Nat) : (idL P).length = P := by simp [idL]
theorem itself_at (z : Int) (P : Nat) (w : World) (hz : z = P) (hP : P ≤ 100000) : Calls Tryz.prog 19 #[.int .i64 z] w (ItPost P w) := by
 subst hz
 exact itself_any P w hP
/-- a row told by places themselves, in a box -/
def WasP (w0 w1 : World) (gb : Nat) (vp vq : Value) (r : RowD) (hs : List Int) (wr : World) : Prop := ∃ p d, Blk wr gb 31 #[vp, vq, .int .i64 (topOf hs), p, d] ∧ w1.heap.size ≤ gb ∧ wr.ownsRow w1.heap.size 3 1 p r.params.length (i64s (toldL hs r.params)) ∧ CodesR w0 wr w1.heap.size d (r.code.map (toldC hs)) ∧ Below w1.heap.size w1 wr
theorem WasP.mk1 {w0 w1 wA wB : World} {r : RowD} {hs : List Int} {vp vq p d : Value} (hA : Below w1.heap.size w1 wA) (op : wB.ownsRow wA.heap.size 3 1 p r.params.length (i64s (toldL hs r.params))) (oc : CodesR w0 wB wA.heap.size d (r.code.map (toldC hs))) (hB : Below wA.heap.size wA wB) :
  WasP w0 w1 wB.heap.size vp vq r hs (wB.alloc (.cells #[vp, vq, .int .i64 (topOf hs), p, d] 31)) := by
 have hb := below_step hA hB
 exact ⟨p, d, Blk.new _ _ _, hb.size, own_alloc (own_mono op hA.size) _, (oc.mono hA.size).below ((Below.refl _ _).alloc (Nat.le_refl _) _), hb.alloc hb.size _⟩
theorem WasP.mk2 {w0 w1 wA wB : World} {r : RowD} {hs : List Int} {vp vq p d : Value} {gz : Nat} {c0 c1 c2 c3 c4 : Value} (hA : Below w1.heap.size w1 wA) (op : wB.ownsRow wA.heap.size 3 1 p r.params.length (i64s (toldL hs r.params))) (oc : CodesR w0 wB wA.heap.size d (r.code.map (toldC hs))) (hB : Below wA.heap.size wA wB) (kz : Blk wB gz 31 #[c0, c1, c2, c3, c4]) (hz : w1.heap.size ≤ gz) :
  WasP w0 w1 gz vp vq r hs (((((wB.setCell ⟨gz, 0, none⟩ vp).setCell ⟨gz, 1, none⟩ vq).setCell ⟨gz, 2, none⟩ (.int .i64 (topOf hs))).setCell ⟨gz, 3, none⟩ p).setCell ⟨gz, 4, none⟩ d) :=
 ⟨p, d, blk_set5 kz _ _ _ _ _, hz, own5 (own_mono op hA.size) kz _ _ _ _ _, (oc.mono hA.size).other5 kz _ _ _ _ _, below5 (below_step hA hB) hz _ _ _ _ _⟩
theorem told_ids {e : EnvD} {r : RowD} (hc : CheckP e r) {P : Nat} (hP : r.places = P) : (∀ x ∈ r.params, 0 ≤ x ∧ x < (idL P).length) ∧ ∀ c ∈ r.code, (∀ x ∈ c.args, 0 ≤ x ∧ x < (idL P).length) ∧ (∀ x ∈ c.outs, 0 ≤ x ∧ x < (idL P).length) ∧ c.args.length ≤ 100 ∧ c.outs.length ≤ 100 ∧ c.to.length ≤ 100 := by
 rw [idL_len]
 refine ⟨fun x hx => by have h1 := within_mem hc.pin hx; omega, fun c hcm => ?_⟩
 have h1 := codeOk_places (hc.code c hcm)
 exact ⟨fun x hx => by have := h1.1 x hx; omega, fun x hx => by have := h1.2.1 x hx; omega, (row_lens hc).2.2.2.2 c hcm⟩
theorem idL_ok (P : Nat) (hP : P ≤ 4096) : ∀ h ∈ idL P, 0 ≤ h ∧ h < 10000 := by
 intro h hh
 simp only [idL, List.mem_map, List.mem_range] at hh
 obtain ⟨i, hi, rfl⟩ := hh
 omega
theorem row_parts {w : World} {a b x p d : Value} {r : RowD} (h : RowV w (.agg #[a, b, x, p, d]) r) : Ints w a r.sig.inn ∧ Ints w b r.sig.out := by
 obtain ⟨_, _, _, _, e, h4, h5, _⟩ := h
 injection e with e
 injection e with e
 simp only [List.cons.injEq, and_true] at e
 obtain ⟨rfl, rfl, _, rfl, rfl⟩ := e
 exact ⟨h4, h5⟩
theorem rowV_now {e : EnvD} {r : RowD} {hs : List Int} {w0 w : World} {b1 b2 : Nat} {vp vq p d : Value} (hc : CheckP e r) (hp : Ints w0 vp r.sig.inn ∧ Ints w0 vq r.sig.out) (hb : Below w0.heap.size w0 w) (op : w.ownsRow b1 3 1 p r.params.length (i64s (toldL hs r.params))) (oc : CodesR w0 w b2 d (r.code.map (toldC hs))) :
  RowV w (.agg #[vp, vq, .int .i64 (topOf hs), p, d]) (toldR r hs) := by
 have hl := row_lens hc
 exact ⟨vp, vq, p, d, rfl, hp.1.below hb (Nat.le_refl _), hp.2.below hb (Nat.le_refl _), params_own op hl.2.2.1, oc.structs hb (by rw [List.length_map]; omega) (told_lens (hs := hs) hl.2.2.2.2)⟩
theorem rowV_was {e : EnvD} {r : RowD} {hs : List Int} {w0 w : World} {b1 b2 : Nat} {vp vq p d : Value} (hc : CheckP e r) (hp : Ints w0 vp r.sig.inn ∧ Ints w0 vq r.sig.out) (hb : Below w0.heap.size w0 w) (op : w.ownsRow b1 3 1 p r.params.length (i64s (toldL hs r.params))) (oc : CodesO w b2 d (r.code.map (toldC hs))) :
  RowV w (.agg #[vp, vq, .int .i64 (topOf hs), p, d]) (toldR r hs) := by
 have hl := row_lens hc
 exact ⟨vp, vq, p, d, rfl, hp.1.below hb (Nat.le_refl _), hp.2.below hb (Nat.le_refl _), params_own op hl.2.2.1, oc.structs (by rw [List.length_map]; omega) (told_lens (hs := hs) hl.2.2.2.2)⟩
/-- the first k instructions have targets of their own -/
def WasX (w0 w1 : World) (gb : Nat) (vp vq : Value) (r : RowD) (hs : List Int) (p d : Value) (k : Nat) (wr : World) : Prop := Blk wr gb 31 #[vp, vq, .int .i64 (topOf hs), p, d] ∧ w1.heap.size ≤ gb ∧ wr.ownsRow w1.heap.size 3 1 p r.params.length (i64s (toldL hs r.params)) ∧ CodesX w0 wr w1.heap.size d (r.code.map (toldC hs)) k ∧ Below w1.heap.size w1 wr
theorem WasX.put {w0 w1 w w' : World} {gb g n cap k : Nat} {vp vq p u : Value} {r : RowD} {hs : List Int} {c : CodeD} (h : WasX w0 w1 gb vp vq r hs p (.slice (some ⟨g, 0, none⟩) n cap) k w) (hn : (r.code.map (toldC hs)).length = n) (hc : r.code[k]? = some c) (hb : Below w.heap.size w w') (ho : w'.ownsRow w1.heap.size 3 1 u c.to.length (i64s c.to)) :
  WasX w0 w1 gb vp vq r hs p (.slice (some ⟨g, 0, none⟩) n cap) (k + 1) (w'.setCell ⟨g, k * 5 + 4, none⟩ u) := by
 rw [Nat.mul_comm k 5]
 obtain ⟨kb, hg, op, oc, hw⟩ := h
 have kb' := kb.below hb kb.lt
 have op' := own_below op hb (Nat.le_refl _)
 have oc' := oc.below hb
 subst hn
 obtain ⟨vs, h1, _⟩ := oc'
 obtain ⟨cur, hk⟩ := own_blk h1 (g := g) rfl
 have hg2 : w1.heap.size ≤ g := (h1.lt g rfl).1
 have hc' : (r.code.map (toldC hs))[k]? = some (toldC hs c) := by rw [List.getElem?_map, hc]; rfl
 refine ⟨?_, hg, own_other op' (own_ne op' hk (by decide)), (oc.below hb).put hc' ho, (below_step hw hb).setCell (p := ⟨g, 5 * k + 4, none⟩) hg2 _⟩
 refine kb'.setCell (p := ⟨g, 5 * k + 4, none⟩) u ?_
 intro e
 have e : gb = g := e
 subst e
 have := blk_type kb' hk
 revert this
 decide
theorem ints_src {w : World} {A : Option Addr} {c : Nat} {l : List Int} (h : Ints w (.slice A l.length c) l) : Bk.Src w A l.length (i64s l) := by
 obtain ⟨A', c', e, h, _⟩ := h
 injection e with e _ _
 subst e
 exact h
theorem step_append_at {P : Program} {ops : Array Oper} {o : Oper} {a : Act} {K : Act → World → Prop} {Q : Exit → Act → World → Prop} {E : Prop} (w : World) (hgd : o.guard = none) (s x : Operand) (t : TypeId)
    (ho : o.op = .call { callee := .builtin .append, args := #[s, x], argTypes := #[t, t] })
    (base : Nat) (e : TypeId) (z : Value) (size bytes : Nat) (ht : P.underlying t = some (.slice e)) (hinfo : (P.info? e).map (fun i => (i.zero, i.size, i.bytes)) = some (some z, size, bytes)) (hzs : z.cells.size = size) (hsp : 0 < size)
    (v : Value) (n : Nat) (xs : List Value) (hs : a.eval s = v) (hown : w.ownsRow base e size v n xs)
    (A : Option Addr) (m c : Nat) (news : List Value) (hx : a.eval x = .slice A m c) (hr : Bk.Src w A (m * size) news) (h1 : ∀ u ∈ news, u.oneCell' = true)
    (h63 : n + m ≤ maxLen) (hbytes : (n + m) * bytes ≤ 140737488355328) (hbase : base ≤ w.heap.size)
    (h : ∀ v' w', w'.ownsRow base e size v' (n + m) (xs ++ news) → w.grownBy w' v.ownBlock → K (a.put o.dst v') w') : if Region.wanted o (yielded ops a.tmps) = true then Oper.wp P o a w K Q else E := by
  have hw : Region.wanted o (yielded ops a.tmps) = true := by simp [Region.wanted, hgd]
  rw [if_pos hw]
  obtain ⟨i, hi, hz, hsz, hby⟩ := info_parts hinfo
  have key : ∃ v' w', (Builtin.append_ #[t, t] o.type #[v, .slice A m c]).run P w = .ok v' w' ∧ w'.ownsRow base e size v' (n + m) (xs ++ news) ∧ w.grownBy w' v.ownBlock := by
    rcases A with _ | ad
    · have hm0 : m = 0 := by
        rcases Nat.eq_zero_or_pos m with h0 | h0
        · exact h0
        · obtain ⟨b, o, had, _⟩ := hr.2 (Nat.mul_pos h0 hsp)
          cases had
      subst hm0
      have hm : news = [] := List.eq_nil_of_length_eq_zero (by rw [hr.1, Nat.zero_mul])
      subst hm
      refine ⟨v, w, ?_, by simpa using hown, World.grownBy.refl w _⟩
      rcases hown.2 with ⟨rfl, rfl⟩ | ⟨g, cap, cur, rfl, _, _, hnc, _⟩
      · simp [Builtin.append_, run_underlying ht, sizeOf, typeInfo, hi, Builtin.lenOf, Builtin.firstCells]
      · simp [Builtin.append_, run_underlying ht, sizeOf, typeInfo, hi, Builtin.lenOf, Builtin.firstCells, hnc, storeCells]
    · obtain ⟨v', w', hrun, h2, h3, h4, h5⟩ := run_append_own_at (P := P) w base t o.type e i z size bytes ht hi hz hsz hby hzs hsp v n xs hown ad m c news hr.1
        (fun j u hu => by
          have hj := (List.getElem?_eq_some_iff.1 hu).1
          obtain ⟨b, o, e', _, hc⟩ := hr.2 (by have := hr.1; omega)
          injection e' with e'
          subst e'
          rw [Addr.add_lit]
          exact hc j u hu) h1 h63 hbytes hbase
      exact ⟨v', w', hrun, h2, h3⟩
  obtain ⟨v', w', hrun, h2, h3⟩ := key
  unfold Oper.wp execOp
  simp only [ho, resolve, invoke, builtin, Sem.run_bind, Sem.run_pure, Result.andThen_ok, List.map_toArray, List.map_cons, List.map_nil, hs, hx, hrun]
  exact h v' w' h2 h3
/-- what was answered, in a box, as it may be written over -/
def GotP (w3 : World) (gc : Nat) (v0 v1 v2 v3 d : Value) (C : List CodeD) (wr : World) : Prop := Blk wr gc 31 #[v0, v1, v2, v3, d] ∧ w3.heap.size ≤ gc ∧ CodesW wr w3.heap.size d C ∧ Below w3.heap.size w3 wr
theorem GotP.set {w3 wr : World} {gc G i : Nat} {v0 v1 v2 v3 d u : Value} {C : List CodeD} {ks : Array Value} (h : GotP w3 gc v0 v1 v2 v3 d C wr) (hk : Blk wr G 3 ks) (hG : w3.heap.size ≤ G) : GotP w3 gc v0 v1 v2 v3 d C (wr.setCell ⟨G, i, none⟩ u) := by
 obtain ⟨kb, hg, oc, hb⟩ := h
 refine ⟨kb.setCell (p := ⟨G, i, none⟩) u ?_, hg, oc.set hk, hb.setCell (p := ⟨G, i, none⟩) hG u⟩
 intro e
 have e : gc = G := e
 subst e
 have := blk_type kb hk
 revert this
 decide
theorem own_of_blk {w : World} {base g P : Nat} {l : List Int} (hk : Blk w g 3 (i64s l).toArray) (hl : l.length = P) (hP : P ≤ 100000) (hg : base ≤ g) : w.ownsRow base 3 1 (.slice (some ⟨g, 0, none⟩) P P) P (i64s l) :=
 ⟨by simp [i64s, hl], .inr ⟨g, P, (i64s l).toArray, rfl, hg, hk, Nat.le_refl _, by unfold maxLen; omega, by simp [i64s, hl], by subst hl; rw [Nat.mul_one]; exact List.take_of_length_le (by simp [i64s])⟩⟩
/-- a row of numbers that is written over -/
def OverP (w5 : World) (A : Option Addr) (n c : Nat) (wr : World) : Prop := (∃ xs, wr.ownsRow w5.heap.size 3 1 (.slice A n c) n xs) ∧ Below w5.heap.size w5 wr
theorem OverP.set {w5 wr : World} {g n c i : Nat} {u : Value} {ks : Array Value} (h : OverP w5 (some ⟨g, 0, none⟩) n c wr) (hk : Blk wr g 3 ks) (hg : w5.heap.size ≤ g) : OverP w5 (some ⟨g, 0, none⟩) n c (wr.setCell ⟨g, i, none⟩ u) := by
 obtain ⟨⟨xs, h1⟩, h2⟩ := h
 exact ⟨⟨_, own_setAt h1⟩, h2.setCell (p := ⟨g, i, none⟩) hg u⟩
theorem CodesW.shape {w : World} {base : Nat} {v : Value} {C : List CodeD} (h : CodesW w base v C) : ∃ A c, v = .slice A C.length c := by
 obtain ⟨vs, h1, _⟩ := h
 obtain ⟨A, c, e, _⟩ := own_shape h1
 exact ⟨A, c, e⟩
theorem CodesW.nil (w : World) (base : Nat) : CodesW w base (.slice none 0 0) [] := ⟨[], World.ownsRow_nil _ _ _ _, rfl, fun i cs c h => by simp at h⟩
theorem CodesW.readG {w : World} {base k g n cap : Nat} {C : List CodeD} {c : CodeD} (h : CodesW w base (.slice (some ⟨g, 0, none⟩) n cap) C) (hc : C[k]? = some c) : ∃ A m B n', base ≤ g ∧ g < w.heap.size ∧ w.cell? ⟨g, k * 5 + 2, none⟩ = some (.slice A c.args.length m) ∧ w.cell? ⟨g, k * 5 + 4, none⟩ = some (.slice B c.to.length n') ∧ (∃ xs, w.ownsRow base 3 1 (.slice A c.args.length m) c.args.length xs) ∧ ∃ xs, w.ownsRow base 3 1 (.slice B c.to.length n') c.to.length xs := by
 obtain ⟨g', cap', A, m, B, n', e, h1, h2, h3, h4, h5, h6⟩ := h.read hc
 injection e with e e2 e3
 injection e with e
 injection e with e _ _
 subst e
 rw [Nat.mul_comm k 5]
 exact ⟨A, m, B, n', h1, h2, h3, h4, h5, h6⟩
theorem GotP.new {w3 w4 : World} {v0 v1 v2 v3 d : Value} {C : List CodeD} (hb : Below w3.heap.size w3 w4) (hc : CodesW w4 w3.heap.size d C) (hl : C.length ≤ 4096) (hm : ∀ c ∈ C, c.args.length ≤ 100 ∧ c.to.length ≤ 100) : ∃ v0' v1' v2' v3' d' C', GotP w3 w4.heap.size v0' v1' v2' v3' d' C' (w4.alloc (.cells #[v0, v1, v2, v3, d] 31)) ∧ C'.length ≤ 4096 ∧ ∀ c ∈ C', c.args.length ≤ 100 ∧ c.to.length ≤ 100 :=
 ⟨v0, v1, v2, v3, d, C, ⟨Blk.new _ _ _, hb.size, hc.below ((Below.refl _ _).alloc (Nat.le_refl _) _), hb.alloc hb.size _⟩, hl, hm⟩
theorem GotP.none {w3 w4 : World} {v0 v1 v2 v3 : Value} (hb : Below w3.heap.size w3 w4) : ∃ v0' v1' v2' v3' d' C', GotP w3 w4.heap.size v0' v1' v2' v3' d' C' (w4.alloc (.cells #[v0, v1, v2, v3, .slice none 0 0] 31)) ∧ C'.length ≤ 4096 ∧ ∀ c ∈ C', c.args.length ≤ 100 ∧ c.to.length ≤ 100 :=
 GotP.new hb (CodesW.nil _ _) (by simp) (fun c hc => by simp at hc)
theorem OverP.none {w5 w6 : World} (hb : Below w5.heap.size w5 w6) : OverP w5 none 0 0 w6 := ⟨⟨[], World.ownsRow_nil _ _ _ _⟩, hb⟩
theorem GotP.lens {e : EnvD} {r : RowD} {hs : List Int} (hc : CheckP e r) : (r.code.map (toldC hs)).length ≤ 4096 ∧ ∀ c ∈ r.code.map (toldC hs), c.args.length ≤ 100 ∧ c.to.length ≤ 100 := by
 have h := row_lens hc
 refine ⟨by rw [List.length_map]; exact h.2.2.2.1, fun c hcm => ?_⟩
 have := told_lens (hs := hs) h.2.2.2.2 c hcm
 exact ⟨this.1, this.2.2⟩
end Go.Proofs.YtgmapikcpnffhaaGreat
