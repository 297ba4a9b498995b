/-
  The visit of an instruction (the closure of lower.rings).
  Conditions: the memory is as the search has it.
-/
import Derived.Test.YtkfnnmdghibjbaaLivRing0
import Derived.Test.YtkfnnmdghibjbaaLivNext
import Derived.Test.YtkfnnmdghibjbaaRows1
namespace Go.Proofs.Ytkfnnmdghibjbaa
open Go.RowKit Go.Bk Go.Bk.Liv
set_option linter.unusedVariables false
set_option linter.unusedSimpArgs false

theorem grown_setCell (w : World) (b o : Nat) (u : Value) : w.grownBy (w.setCell ⟨b, o, none⟩ u) (some b) :=
  ⟨rfl, rfl, rfl, by simp, fun k _ hk => heap_setCell_other w ⟨b, o, none⟩ k u (fun e => hk (by simp [e]))⟩
theorem below_grownBy {w w' : World} (h : Below w.heap.size w w') : w.grownBy w' none := ⟨h.os, h.tape, h.output, h.size, fun k hk _ => h.block k hk⟩
theorem blk_setSame {w : World} {g : Nat} {e : TypeId} {cs : Array Value} (h : Blk w g e cs) (o : Nat) (u : Value) : Blk (w.setCell ⟨g, o, none⟩ u) g e (cs.setIfInBounds o u) := heap_setCell_same w g o cs e u h
theorem info_ints : (Try.prog.info? 23).map (fun i => (i.zero, i.size, i.bytes)) = some (some (.slice none 0 0), 1, 24) := by kernel_rfl

/-- an open instruction's entry, in memory -/
def EB (w : World) (gS : Nat) (v : Value) (l : List Int) : Prop := ∃ g c cur, v = .slice (some ⟨g, 0, none⟩) l.length c ∧ Blk w g 3 cur ∧ g ≠ gS ∧ l.length ≤ c ∧ cur.toList.take l.length = i64s l
theorem EB.of {w : World} {base gS : Nat} {v : Value} {l : List Int} (h : w.ownsRow base 3 1 v l.length (i64s l)) (hg : gS < base) (hl : 0 < l.length) : EB w gS v l := by
  rcases h.2 with ⟨h1, h2⟩ | ⟨g, cap, cur, h1, h2, h3, h4, _, _, h5⟩
  · omega
  · exact ⟨g, cap, cur, h1, h3, by omega, h4, by simpa using h5⟩
theorem EB.grown {w w' : World} {gS : Nat} {v : Value} {l : List Int} {r : Option Nat} (h : EB w gS v l) (hg : w.grownBy w' r) (hr : ∀ g cs, Blk w g 3 cs → g ≠ gS → r ≠ some g) : EB w' gS v l := by
  obtain ⟨g, c, cur, e, hb, hne, r1⟩ := h
  exact ⟨g, c, cur, e, hb.grown hg (hr g cur hb hne), hne, r1⟩
theorem EB.src {w : World} {gS : Nat} {v : Value} {l : List Int} (h : EB w gS v l) : ∃ g c, v = .slice (some ⟨g, 0, none⟩) l.length c ∧ l.length ≤ c ∧ Bk.Src w (some ⟨g, 0, none⟩) l.length (i64s l) := by
  obtain ⟨g, c, cur, e, hb, hne, hc, ht⟩ := h
  refine ⟨g, c, e, hc, ?_⟩
  have hl : l.length ≤ cur.size := by
    have := congrArg List.length ht
    rw [List.length_take, i64s_len] at this
    simp at this
    omega
  have := hb.src l.length hl
  rwa [ht] at this

/-- the search's memory -/
structure RM (w : World) (base bR bS bK gS : Nat) (rv : Array Value) (st : List Int) (stk : Stk) (v : Value) (vs : List Value) : Prop where
  r : Blk w bR 31 rv
  s : Blk w bS 23 #[.slice (some ⟨gS, 0, none⟩) st.length st.length]
  t : Blk w gS 3 (i64s st).toArray
  k : Blk w bK 32 #[v]
  own : w.ownsRow base 23 1 v stk.length vs
  ent : ∀ (j : Nat) u e, vs[j]? = some u → stk[j]? = some e → EB w gS u (ints' e)
  lR : base ≤ bR
  lS : base ≤ bS
  lT : base ≤ gS
  lK : base ≤ bK
  o1 : v.ownBlock ≠ some bS

theorem blk_ne {w : World} {a b : Nat} {s t : TypeId} {c d : Array Value} (h : Blk w a s c) (k : Blk w b t d) (hst : s ≠ t) : a ≠ b := by
  intro e
  subst e
  have := h.symm.trans k
  injection this with this
  injection this with _ h2
  exact hst h2
theorem own_ne {w : World} {base n b size : Nat} {s t : TypeId} {v : Value} {xs : List Value} {d : Array Value} (h : w.ownsRow base s size v n xs) (k : Blk w b t d) (hst : s ≠ t) : v.ownBlock ≠ some b := by
  rcases h.2 with ⟨h1, _⟩ | ⟨g, cap, cur, h1, h2, h3, _⟩
  · subst h1; simp [Value.ownBlock]
  · subst h1
    intro e
    injection e with e
    subst e
    exact blk_ne (show Blk w g s cur from h3) k hst rfl
theorem RM.base_lt {w : World} {base bR bS bK gS : Nat} {rv : Array Value} {st : List Int} {stk : Stk} {v : Value} {vs : List Value} (h : RM w base bR bS bK gS rv st stk v vs) : base ≤ w.heap.size := Nat.le_of_lt (Nat.lt_of_le_of_lt h.lR h.r.lt)
/-- memory that only grew -/
theorem RM.grown {w w' : World} {base bR bS bK gS : Nat} {rv : Array Value} {st : List Int} {stk : Stk} {v : Value} {vs : List Value} (h : RM w base bR bS bK gS rv st stk v vs) (hb : Below w.heap.size w w') : RM w' base bR bS bK gS rv st stk v vs :=
  { h with r := h.r.below hb h.r.lt, s := h.s.below hb h.s.lt, t := h.t.below hb h.t.lt, k := h.k.below hb h.k.lt, own := own_below h.own hb (Nat.le_refl _),
           ent := fun j u e h1 h2 => (h.ent j u e h1 h2).grown (below_grownBy hb) (fun _ _ _ _ => by simp) }
/-- an instruction's state is set -/
theorem RM.put {w : World} {base bR bS bK gS : Nat} {rv : Array Value} {st : List Int} {stk : Stk} {v : Value} {vs : List Value} (h : RM w base bR bS bK gS rv st stk v vs) (i : Nat) (x : Int) : RM (w.setCell ⟨gS, i, none⟩ (.int .i64 x)) base bR bS bK gS rv (st.set i x) stk v vs := by
  have hn := own_ne h.own h.t (by decide)
  refine { h with r := h.r.grown (grown_setCell w gS i _) ?_, s := ?_, t := ?_, k := h.k.grown (grown_setCell w gS i _) ?_, own := own_other h.own hn, ent := fun j u e h1 h2 => (h.ent j u e h1 h2).grown (grown_setCell w gS i _) (fun g cs _ hg e => hg (by injection e with e; exact e.symm)) }
  · intro e; injection e with e; exact blk_ne h.t h.r (by decide) e
  · rw [List.length_set]
    exact h.s.grown (grown_setCell w gS i _) (fun e => by injection e with e; exact blk_ne h.t h.s (by decide) e)
  · have := blk_setSame h.t i (.int .i64 x)
    have e1 : (i64s st).toArray.setIfInBounds i (.int .i64 x) = (i64s (st.set i x)).toArray := by
      simp [i64s, List.map_set]
    rwa [e1] at this
  · intro e; injection e with e; exact blk_ne h.t h.k (by decide) e
/-- an entry is laid on the stack -/
theorem RM.push {w w' : World} {base bR bS bK gS : Nat} {rv : Array Value} {st : List Int} {stk : Stk} {v v' u : Value} {vs : List Value} {e : Nat × List Int} (h : RM w base bR bS bK gS rv st stk v vs) (hu : EB w gS u (ints' e))
    (hg : w.grownBy w' v.ownBlock) (ho : w'.ownsRow base 23 1 v' (stk.length + 1) (vs ++ [u])) (hv : v'.ownBlock = v.ownBlock ∨ v'.ownBlock = some w.heap.size) :
    RM (w'.setCell ⟨bK, 0, none⟩ v') base bR bS bK gS rv st (stk ++ [e]) v' (vs ++ [u]) := by
  have hn : ∀ b t c, Blk w b t c → t ≠ 23 → v.ownBlock ≠ some b := fun b t c hb ht => own_ne h.own hb (fun e => ht e.symm)
  have hr := h.r.grown hg (hn _ _ _ h.r (by decide))
  have hs := h.s.grown hg h.o1
  have ht := h.t.grown hg (hn _ _ _ h.t (by decide))
  have hk := h.k.grown hg (hn _ _ _ h.k (by decide))
  have hlen : vs.length = stk.length := by have := h.own.1; simpa using this
  have gk := grown_setCell w' bK 0 v'
  refine { r := hr.grown gk ?_, s := hs.grown gk ?_, t := ht.grown gk ?_, k := ?_, own := ?_, ent := fun j x y h1 h2 => ?_, lR := h.lR, lS := h.lS, lT := h.lT, lK := h.lK, o1 := ?_ }
  · intro e; injection e with e; exact blk_ne hk hr (by decide) e
  · intro e; injection e with e; exact blk_ne hk hs (by decide) e
  · intro e; injection e with e; exact blk_ne hk ht (by decide) e
  · have := blk_setSame hk 0 v'
    simpa using this
  · have : v'.ownBlock ≠ some bK := own_ne ho hk (by decide)
    have h2 := own_other (k := 0) (u := v') ho this
    simpa using h2
  · have key : ∀ x y, EB w gS x y → EB (w'.setCell ⟨bK, 0, none⟩ v') gS x y := by
      intro x y hx
      refine (hx.grown hg (fun g cs hb _ => hn _ _ _ hb (by decide))).grown gk (fun g cs hb _ e => ?_)
      injection e with e
      exact blk_ne hk hb (by decide) e
    by_cases hj : j < stk.length
    · rw [List.getElem?_append_left (by omega)] at h1
      rw [List.getElem?_append_left hj] at h2
      exact key _ _ (h.ent j x y h1 h2)
    · rw [List.getElem?_append_right (by omega)] at h1 h2
      have h0 : j - stk.length = 0 := by
        have := (List.getElem?_eq_some_iff.1 h2).1
        simp at this
        omega
      rw [hlen, h0] at h1
      rw [h0] at h2
      simp at h1 h2
      subst h1
      subst h2
      exact key _ _ hu
  · rcases hv with e | e
    · rw [e]; exact h.o1
    · rw [e]
      intro e'
      injection e' with e'
      have := h.s.lt
      omega
end Go.Proofs.Ytkfnnmdghibjbaa
