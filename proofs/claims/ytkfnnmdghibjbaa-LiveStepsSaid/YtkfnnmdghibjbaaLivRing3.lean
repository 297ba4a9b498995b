/-
  The search's memory: what is taken off the stack; the measure of the search.
  Conditions: none.
-/
import Derived.Test.YtkfnnmdghibjbaaLivRing2
import Derived.Test.YtkfnnmdghibjbaaMk
namespace Go.Proofs.Ytkfnnmdghibjbaa
open Go.RowKit Go.Bk Go.Bk.Liv
set_option linter.unusedVariables false
set_option linter.unusedSimpArgs false

/-- the last entry's own value -/
theorem RM.top {w : World} {base bR bS bK gS : Nat} {rv : Array Value} {st : List Int} {S : Stk} {e : Nat × List Int} {v : Value} {vs : List Value} (h : RM w base bR bS bK gS rv st (S ++ [e]) v vs) :
    ∃ gk cv g c, v = .slice (some ⟨gk, 0, none⟩) (S.length + 1) cv ∧ S.length + 1 ≤ cv ∧ gk < w.heap.size ∧ base ≤ gk ∧ gk ≠ bS ∧ gk ≠ bR ∧ gk ≠ gS ∧ gk ≠ bK ∧ g ≠ gk ∧ w.cell? ⟨gk, S.length, none⟩ = some (.slice (some ⟨g, 0, none⟩) (e.2.length + 1) c) ∧ w.frozen? ⟨gk, S.length, none⟩ = false ∧ e.2.length + 1 ≤ c ∧
      Bk.Src w (some ⟨g, 0, none⟩) (e.2.length + 1) (i64s (ints' e)) ∧ vs.length = S.length + 1 ∧ g < w.heap.size ∧ g ≠ gS ∧ g ≠ bS ∧ g ≠ bK ∧ g ≠ bR := by
  have ho := h.own
  have hsl : (S ++ [e]).length = S.length + 1 := by simp
  rw [hsl] at ho
  obtain ⟨gk, cv, rfl, hlt, hb, hc⟩ := own_at ho (by omega)
  have hlen : vs.length = S.length + 1 := by have := ho.1; simpa using this
  have hcell := ho.cellAt S.length (by omega)
  have hu : vs[S.length]? = some (vs[S.length]'(by omega)) := List.getElem?_eq_getElem (by omega)
  obtain ⟨g, c, cur, e1, hbk, hne, hlc, htk⟩ := h.ent S.length _ e hu (by simp)
  have hsrc : ∃ c', Bk.Src w (some ⟨g, 0, none⟩) (ints' e).length (i64s (ints' e)) := ⟨c, by
    have hl : (ints' e).length ≤ cur.size := by
      have := congrArg List.length htk
      rw [List.length_take, i64s_len] at this
      simp at this
      omega
    have := hbk.src (ints' e).length hl
    rwa [htk] at this⟩
  obtain ⟨_, hsrc⟩ := hsrc
  have hie : (ints' e).length = e.2.length + 1 := by simp [ints']
  rw [hie] at e1 hlc hsrc
  have q1 := own_ne ho h.r (by decide)
  have q2 := own_ne ho h.t (by decide)
  have q3 := own_ne ho h.k (by decide)
  have q4 := h.o1
  have q5 := own_ne ho hbk (by decide)
  rw [hu, e1] at hcell
  exact ⟨gk, cv, g, c, rfl, hc, hlt, hb, fun e => q4 (by rw [e]; rfl), fun e => q1 (by rw [e]; rfl), fun e => q2 (by rw [e]; rfl), fun e => q3 (by rw [e]; rfl), fun e => q5 (by rw [← e]; rfl), hcell, ho.frozenAt _, hlc, hsrc, hlen, hbk.lt, hne, blk_ne hbk h.s (by decide), blk_ne hbk h.k (by decide), blk_ne hbk h.r (by decide)⟩
theorem RM.drew {w : World} {base bR bS bK gS : Nat} {rv : Array Value} {st : List Int} {stk : Stk} {v : Value} {vs : List Value} (h : RM w base bR bS bK gS rv st stk v vs) : RM w.drew base bR bS bK gS rv st stk v vs :=
  { r := h.r, s := h.s, t := h.t, k := h.k, own := h.own, ent := fun j u e h1 h2 => h.ent j u e h1 h2, lR := h.lR, lS := h.lS, lT := h.lT, lK := h.lK, o1 := h.o1 }
/-- the last entry is taken off -/
theorem RM.pop {w : World} {base bR bS bK gS gk cv : Nat} {rv : Array Value} {st : List Int} {S : Stk} {e : Nat × List Int} {vs : List Value} (h : RM w base bR bS bK gS rv st (S ++ [e]) (.slice (some ⟨gk, 0, none⟩) (S.length + 1) cv) vs) :
    RM (w.setCell ⟨bK, 0, none⟩ (.slice (some ⟨gk, 0, none⟩) S.length cv)) base bR bS bK gS rv st S (.slice (some ⟨gk, 0, none⟩) S.length cv) (vs.take S.length) := by
  have gkk := grown_setCell w bK 0 (.slice (some ⟨gk, 0, none⟩) S.length cv)
  have hsl : (S ++ [e]).length = S.length + 1 := by simp
  have ho := h.own
  rw [hsl] at ho
  have hq : (Value.slice (some ⟨gk, 0, none⟩) S.length cv).ownBlock ≠ some bK := by have := own_ne ho h.k (by decide); exact this
  have ht := own_take (k := S.length) ho (by omega) (by simp)
  rw [Nat.mul_one] at ht
  refine { h with r := h.r.grown gkk ?_, s := h.s.grown gkk ?_, t := h.t.grown gkk ?_, k := ?_, own := own_other ht hq, ent := fun j x y h1 h2 => ?_, o1 := h.o1 }
  · intro e; injection e with e; exact blk_ne h.k h.r (by decide) e
  · intro e; injection e with e; exact blk_ne h.k h.s (by decide) e
  · intro e; injection e with e; exact blk_ne h.k h.t (by decide) e
  · have := blk_setSame h.k 0 (.slice (some ⟨gk, 0, none⟩) S.length cv)
    simpa using this
  · have hj : j < S.length := (List.getElem?_eq_some_iff.1 h2).1
    rw [List.getElem?_take, if_pos hj] at h1
    refine (h.ent j x y h1 (by rw [List.getElem?_append_left hj]; exact h2)).grown gkk (fun g cs hb _ e => ?_)
    injection e with e
    exact blk_ne h.k hb (by decide) e
/-- the last entry is shortened -/
theorem RM.shrink {w : World} {base bR bS bK gS gk cv g c t : Nat} {x : Int} {rest : List Int} {rv : Array Value} {st : List Int} {S : Stk} {vs : List Value} (h : RM w base bR bS bK gS rv st (S ++ [(t, rest ++ [x])]) (.slice (some ⟨gk, 0, none⟩) (S.length + 1) cv) vs)
    (hcell : w.cell? ⟨gk, S.length, none⟩ = some (.slice (some ⟨g, 0, none⟩) ((rest ++ [x]).length + 1) c)) :
    RM (w.setCell ⟨gk, S.length, none⟩ (.slice (some ⟨g, 0, none⟩) (rest.length + 1) c)) base bR bS bK gS rv st (S ++ [(t, rest)]) (.slice (some ⟨gk, 0, none⟩) (S.length + 1) cv) (vs.set S.length (.slice (some ⟨g, 0, none⟩) (rest.length + 1) c)) := by
  have hsl : ∀ e : Nat × List Int, (S ++ [e]).length = S.length + 1 := fun e => by simp
  have ho := h.own
  rw [hsl] at ho
  obtain ⟨hst, hgr⟩ := ho.stored S.length (.slice (some ⟨g, 0, none⟩) (rest.length + 1) c)
  have hlen : vs.length = S.length + 1 := by have := ho.1; simpa using this
  have n1 := own_ne ho h.r (by decide)
  have n2 := own_ne ho h.t (by decide)
  have n3 := own_ne ho h.k (by decide)
  refine { h with r := h.r.grown hgr n1, s := h.s.grown hgr h.o1, t := h.t.grown hgr n2, k := h.k.grown hgr n3, own := by rw [hsl]; exact hst, ent := fun j y e h1 h2 => ?_ }
  have gr : ∀ u l, EB w gS u l → EB (w.setCell ⟨gk, S.length, none⟩ (.slice (some ⟨g, 0, none⟩) (rest.length + 1) c)) gS u l := fun u l hu => hu.grown hgr (fun g' cs hb _ => own_ne ho hb (by decide))
  by_cases hj : j < S.length
  · rw [List.getElem?_set_ne (by omega)] at h1
    rw [List.getElem?_append_left hj] at h2
    exact gr _ _ (h.ent j y e h1 (by rw [List.getElem?_append_left hj]; exact h2))
  · have hjj : j = S.length := by
      have := (List.getElem?_eq_some_iff.1 h2).1
      simp at this
      omega
    subst hjj
    rw [List.getElem?_set_self (by omega)] at h1
    simp at h1 h2
    subst h1
    subst h2
    have hu : vs[S.length]? = some (vs[S.length]'(by omega)) := List.getElem?_eq_getElem (by omega)
    have hE := h.ent S.length _ (t, rest ++ [x]) hu (by simp)
    have hcc := ho.cellAt S.length (by omega)
    rw [hcell, hu] at hcc
    injection hcc with hcc
    rw [← hcc] at hE
    obtain ⟨g', c', cur, e1, e2, e3, e4, e5⟩ := hE
    injection e1 with a1 a2 a3
    injection a1 with a1
    injection a1 with a1
    subst a1
    subst a3
    refine gr _ _ ⟨g, c, cur, by simp [ints'], e2, e3, by simp [ints'] at e4 ⊢; omega, ?_⟩
    have := congrArg (List.take (rest.length + 1)) e5
    rw [List.take_take, i64s_take] at this
    have q1 : min (rest.length + 1) (ints' (t, rest ++ [x])).length = (ints' (t, rest)).length := by simp [ints']
    have q2 : (ints' (t, rest ++ [x])).take (rest.length + 1) = ints' (t, rest) := by simp [ints']
    rw [q1, q2] at this
    exact this

/-- how much is still to be done -/
def muS (st : List Int) (stk : Stk) : Nat := 70 * st.count 0 + (stk.map fun e => e.2.length + 1).sum
theorem count_one {st : List Int} {k : Nat} {x y : Int} (h : st[k]? = some x) (hx : x ≠ 0) (hy : y ≠ 0) : (st.set k y).count 0 = st.count 0 := by
  obtain ⟨hk, e⟩ := List.getElem?_eq_some_iff.1 h
  rw [List.count_set hk, e]
  simp [hx, hy]
theorem count_zero' {st : List Int} {k : Nat} {y : Int} (h : st[k]? = some 0) (hy : y ≠ 0) : (st.set k y).count 0 + 1 = st.count 0 := by
  obtain ⟨hk, e⟩ := List.getElem?_eq_some_iff.1 h
  have hp : 0 < st.count 0 := List.count_pos_iff.2 (List.mem_of_getElem? h)
  rw [List.count_set hk, e]
  simp [hy]
  omega
theorem mu_pop {st : List Int} {S : Stk} {t : Nat} (h : st[t]? = some 1) : muS (st.set t 2) S < muS st (S ++ [(t, [])]) := by
  unfold muS
  rw [count_one h (by decide) (by decide)]
  simp
theorem mu_skip {st : List Int} {S : Stk} {t : Nat} {rest : List Int} {x : Int} : muS st (S ++ [(t, rest)]) < muS st (S ++ [(t, rest ++ [x])]) := by
  unfold muS
  simp
theorem mu_fresh {st : List Int} {S : Stk} {t k : Nat} {rest l : List Int} {x : Int} (h : st[k]? = some 0) (hl : l.length ≤ 66) : muS (st.set k 1) (S ++ [(t, rest)] ++ [(k, l)]) < muS st (S ++ [(t, rest ++ [x])]) := by
  unfold muS
  have := count_zero' (y := 1) h (by decide)
  simp
  omega
end Go.Proofs.Ytkfnnmdghibjbaa
