/-
  The memory of live.look: made, and while the search runs.
  Conditions: none.
-/
import Derived.Test.YtkfnnmdghibjbaaLivLk1b
import Derived.Test.YtkfnnmdghibjbaaLivNx
namespace Go.Proofs.Ytkfnnmdghibjbaa
open Go.RowKit Go.Bk Go.Bk.Liv
set_option linter.unusedVariables false
set_option linter.unusedSimpArgs false

/-- what look leaves of a row that may be -/
structure Looked (r : RowD) (w : World) (base gF gA gB : Nat) (bA bB : List Nat) (A B : Sets) : Prop where
  f : Blk w gF 57 #[.slice (some ⟨gA, 0, none⟩) r.code.length r.code.length, .slice (some ⟨gB, 0, none⟩) r.code.length r.code.length]
  a : Blk w gA 64 (mapsV bA).toArray
  b : Blk w gB 64 (mapsV bB).toArray
  la : bA.length = A.length
  lb : bB.length = B.length
  ma : ∀ (i : Nat) b s, bA[i]? = some b → A[i]? = some s → IM w b (setKV s)
  mb : ∀ (i : Nat) b s, bB[i]? = some b → B[i]? = some s → IM w b (setKV s)
  s : Snd r A B
  eA : ∀ (i : Nat) s x, A[i]? = some s → (x ∈ s ↔ Live r i x)
  eB : ∀ (i : Nat) s x, B[i]? = some s → (x ∈ s ↔ LiveB r i x)
  lF : base ≤ gF
  lA : base ≤ gA
  lB : base ≤ gB
def LookPost (e : EnvD) (r : RowD) (w : World) (en : Ending) (w' : World) : Prop :=
  (¬ CheckP e r ∧ en = .returned (.tuple #[.pointer none, .int .i64 6]) ∧ Below w.heap.size w w') ∨
  (CheckP e r ∧ ∃ gF gA gB bA bB A B, en = .returned (.tuple #[.pointer (some ⟨gF, 0, none⟩), .int .i64 0]) ∧ Looked r w' w.heap.size gF gA gB bA bB A B ∧ Below w.heap.size w w')
/-- who comes ahead of each, so far: of the instructions below k, and of k through d -/
structure FromK (r : RowD) (F : Sets) (k : Nat) (d : List Int) : Prop where
  l : F.length = r.code.length
  s : ∀ (j : Nat) l, F[j]? = some l → (∀ x ∈ l, ∃ i : Nat, x = i ∧ i < r.code.length) ∧ l.length ≤ 66 * k + d.length
  f : ∀ (i j : Nat) c l, i < k → r.code[i]? = some c → (j : Int) ∈ nextOf c i → F[j]? = some l → (i : Int) ∈ l
  d : ∀ (j : Nat) l, (j : Int) ∈ d → F[j]? = some l → (k : Int) ∈ l
theorem FromK.start {r : RowD} {n : Nat} (h : r.code.length = n) : FromK r (List.replicate n []) 0 [] where
  l := by simp [h]
  s j l hj := by
    obtain ⟨hl, e⟩ := List.getElem?_eq_some_iff.1 hj
    simp at e
    subst e
    simp
  f i j c l hi := by omega
  d j l hj := by simp at hj
theorem FromK.push {r : RowD} {F : Sets} {k j : Nat} {d l : List Int} (h : FromK r F k d) (hk : k < r.code.length) (hl : F[j]? = some l) : FromK r (F.set j (l ++ [(k : Int)])) k (d ++ [(j : Int)]) where
  l := by rw [List.length_set]; exact h.l
  s i u hu := by
    rcases set_get hu with ⟨e, e2, _⟩ | ⟨e, e2⟩
    · subst e
      subst e2
      obtain ⟨h1, h2⟩ := h.s j l hl
      refine ⟨fun x hx => ?_, by simp; omega⟩
      rcases List.mem_append.1 hx with hx | hx
      · exact h1 x hx
      · simp at hx; exact ⟨k, hx, hk⟩
    · obtain ⟨h1, h2⟩ := h.s i u e2
      exact ⟨h1, by simp; omega⟩
  f i q c u hi hc hq hu := by
    rcases set_get hu with ⟨e, e2, _⟩ | ⟨e, e2⟩
    · subst e
      subst e2
      exact List.mem_append_left _ (h.f i j c l hi hc hq hl)
    · exact h.f i q c u hi hc hq e2
  d q u hq hu := by
    rcases set_get hu with ⟨e, e2, _⟩ | ⟨e, e2⟩
    · subst e2; simp
    · rcases List.mem_append.1 hq with hq | hq
      · exact h.d q u hq e2
      · simp at hq; omega
theorem FromK.next {r : RowD} {F : Sets} {k : Nat} {c : CodeD} {d : List Int} (h : FromK r F k d) (hc : r.code[k]? = some c) (hd : ∀ x, x ∈ nextOf c k → x ∈ d) (hl : d.length ≤ 66) : FromK r F (k + 1) [] where
  l := h.l
  s j l hj := by
    obtain ⟨h1, h2⟩ := h.s j l hj
    exact ⟨h1, by simp; omega⟩
  f i j c' l hi hc' hj hl' := by
    by_cases e : i = k
    · subst e
      rw [hc] at hc'
      injection hc' with hc'
      subst hc'
      exact h.d j l (hd _ hj) hl'
    · exact h.f i j c' l (by omega) hc' hj hl'
  d j l hj := by simp at hj
theorem FromK.done {r : RowD} {F : Sets} {n : Nat} (h : FromK r F n []) (hn : r.code.length = n) : FromOk r F :=
  ⟨h.l, fun k l hk => (h.s k l hk).1, fun i k c l hc hk hl => h.f i k c l (by rw [← hn]; exact (List.getElem?_eq_some_iff.1 hc).1) hc hk hl⟩
def rng (k : Nat) : List Int := (List.range k).map fun i : Nat => (i : Int)
theorem rng_len (k : Nat) : (rng k).length = k := by simp [rng]
theorem rng_set {k n : Nat} (h : k < n) : (rng k ++ List.replicate (n - k) 0).set k (k : Int) = rng (k + 1) ++ List.replicate (n - (k + 1)) 0 := by
  obtain ⟨m, hm⟩ : ∃ m, n - k = m + 1 := ⟨n - k - 1, by omega⟩
  have hm2 : n - (k + 1) = m := by omega
  rw [hm, hm2, List.replicate_succ]
  have e : rng (k + 1) = rng k ++ [(k : Int)] := by simp [rng, List.range_succ]
  rw [e, List.set_append_right _ _ (by rw [rng_len]; exact Nat.le_refl _), rng_len, Nat.sub_self]
  simp
theorem wt_set {k n : Nat} (h : k < n) : (List.replicate k true ++ List.replicate (n - k) false).set k true = List.replicate (k + 1) true ++ List.replicate (n - (k + 1)) false := by
  obtain ⟨m, hm⟩ : ∃ m, n - k = m + 1 := ⟨n - k - 1, by omega⟩
  have hm2 : n - (k + 1) = m := by omega
  rw [hm, hm2, List.replicate_succ]
  rw [List.set_append_right _ _ (by simp), List.length_replicate, Nat.sub_self, List.replicate_succ']
  simp
/-- the memory, made for the instructions below k -/
def InRel (r : RowD) (n base bR gF gA gB gFr gW gT : Nat) (rv : Array Value) (w0 : World) (k : Nat) (d : List Int) (j : Nat) (wr : World) : Prop :=
  ∃ (bA bB : List Nat) (vF : List Value) (F : Sets), bA.length = j ∧ bB.length = j ∧ LkM wr n base bR gF gA gB gFr gW rv bA bB (List.replicate j []) (List.replicate j []) vF F (List.replicate k true ++ List.replicate (n - k) false) ∧ DJ vF (.slice (some ⟨gT, 0, none⟩) n n) ∧
    wr.ownsRow base 3 1 (.slice (some ⟨gT, 0, none⟩) n n) n (i64s (rng k ++ List.replicate (n - k) 0)) ∧ FromK r F k d ∧ Below base w0 wr
section
variable {w w' : World} {n base bR gF gA gB gFr gW : Nat} {rv : Array Value} {bA bB : List Nat} {A B : Sets} {vF : List Value} {F : Sets} {wt : List Bool}
theorem LkM.maps_lt (h : LkM w n base bR gF gA gB gFr gW rv bA bB A B vF F wt) {b : Nat} (hb : b ∈ bA ++ bB) : b < w.heap.size := by
  rcases List.mem_append.1 hb with hb | hb
  · obtain ⟨i, hi⟩ := List.mem_iff_getElem?.1 hb
    exact (h.ma i b _ hi (List.getElem?_eq_getElem (by rw [← h.la]; exact (List.getElem?_eq_some_iff.1 hi).1))).lt
  · obtain ⟨i, hi⟩ := List.mem_iff_getElem?.1 hb
    exact (h.mb i b _ hi (List.getElem?_eq_getElem (by rw [← h.lb]; exact (List.getElem?_eq_some_iff.1 hi).1))).lt
/-- two sets are made, in whatever order -/
theorem LkM.made (h : LkM w n base bR gF gA gB gFr gW rv bA bB A B vF F wt) {k N1 N2 : Nat} (hA : bA.length = k) (hB : bB.length = k) (hk : k < n) (hN : (N1 = w.heap.size ∧ N2 = w.heap.size + 1) ∨ (N1 = w.heap.size + 1 ∧ N2 = w.heap.size)) :
    LkM ((((w.setCell ⟨gA, k, none⟩ (.map (some N1))).setCell ⟨gB, k, none⟩ (.map (some N2))).alloc (.map #[] 0)).alloc (.map #[] 0)) n base bR gF gA gB gFr gW rv (bA ++ [N1]) (bB ++ [N2]) (A ++ [[]]) (B ++ [[]]) vF F wt := by
  subst hA
  have hz := h.base_lt
  have lA := h.a.lt
  have lB := h.b.lt
  have e : (((w.setCell ⟨gA, bA.length, none⟩ (.map (some N1))).setCell ⟨gB, bA.length, none⟩ (.map (some N2))).alloc (.map #[] 0)).alloc (.map #[] 0) = (((w.alloc (.map #[] 0)).alloc (.map #[] 0)).setCell ⟨gA, bA.length, none⟩ (.map (some N1))).setCell ⟨gB, bA.length, none⟩ (.map (some N2)) := by
    rw [World.setCell_alloc_past _ _ _ _ (show gA < (w.alloc (.map #[] 0)).heap.size by simp; omega), World.setCell_alloc_past _ _ _ _ lA, World.setCell_alloc_past _ _ _ _ (show gB < ((w.setCell ⟨gA, bA.length, none⟩ (.map (some N1))).alloc (.map #[] 0)).heap.size by simp; omega), World.setCell_alloc_past _ _ _ _ (show gB < (w.setCell ⟨gA, bA.length, none⟩ (.map (some N1))).heap.size by simp; omega)]
  rw [e]
  have h2 : LkM ((w.alloc (.map #[] 0)).alloc (.map #[] 0)) n base bR gF gA gB gFr gW rv bA bB A B vF F wt := h.grown (al2 w _ _)
  have i0 : IM ((w.alloc (.map #[] 0)).alloc (.map #[] 0)) w.heap.size [] := (IM.new w).alloc _
  have i1 : IM ((w.alloc (.map #[] 0)).alloc (.map #[] 0)) (w.heap.size + 1) [] := IM.newAt (by simp)
  have j1 : IM ((w.alloc (.map #[] 0)).alloc (.map #[] 0)) N1 [] := by rcases hN with ⟨e, _⟩ | ⟨e, _⟩ <;> rw [e] <;> assumption
  have j2 : IM ((w.alloc (.map #[] 0)).alloc (.map #[] 0)) N2 [] := by rcases hN with ⟨_, e⟩ | ⟨_, e⟩ <;> rw [e] <;> assumption
  have b1 := h2.addA hk j1 (fun hin => by have := h.maps_lt hin; omega) (by omega)
  have j3 := j2.setCell (p := ⟨gA, bA.length, none⟩) (.map (some N1)) (show N2 ≠ gA by omega)
  have b2 := b1.addB (by omega) j3 (fun hin => by
    rw [List.append_assoc, List.mem_append, List.mem_append] at hin
    rcases hin with hin | hin | hin
    · have := h.maps_lt (List.mem_append_left _ hin); omega
    · simp at hin; omega
    · have := h.maps_lt (List.mem_append_right _ hin); omega) (by omega)
  rw [hB] at b2
  exact b2
end
theorem InRel.made {r : RowD} {n base bR gF gA gB gFr gW gT k N1 N2 : Nat} {rv : Array Value} {w0 w : World} (h : InRel r n base bR gF gA gB gFr gW gT rv w0 k [] k w) (hk : k < n) (hN : (N1 = w.heap.size ∧ N2 = w.heap.size + 1) ∨ (N1 = w.heap.size + 1 ∧ N2 = w.heap.size)) :
    InRel r n base bR gF gA gB gFr gW gT rv w0 k [] (k + 1) ((((w.setCell ⟨gA, k, none⟩ (.map (some N1))).setCell ⟨gB, k, none⟩ (.map (some N2))).alloc (.map #[] 0)).alloc (.map #[] 0)) := by
  obtain ⟨bA, bB, vF, F, h1, h2, h3, h4, h5, h6, h7⟩ := h
  have hz := h3.base_lt
  have m := h3.made h1 h2 hk hN
  have e : List.replicate k ([] : List Int) ++ [[]] = List.replicate (k + 1) [] := by rw [List.replicate_succ']
  rw [e] at m
  refine ⟨bA ++ [N1], bB ++ [N2], vF, F, by simp [h1], by simp [h2], m, h4, ?_, h6, ?_⟩
  · have q1 := own_ne h5 h3.a (show (3 : Nat) ≠ 64 by decide)
    have q2 := own_ne h5 h3.b (show (3 : Nat) ≠ 64 by decide)
    exact own_alloc (own_alloc (own_other (own_other h5 q1) q2) _) _
  · exact (((h7.setCell (p := ⟨gA, k, none⟩) h3.lA _).setCell (p := ⟨gB, k, none⟩) h3.lB _).alloc (by simp; exact hz) _).alloc (by simp; omega) _
/-- so, and those behind the instruction at work lie in a row of their own -/
def InRel2 (r : RowD) (n base bR gF gA gB gFr gW gT : Nat) (rv : Array Value) (w0 : World) (k : Nat) (d : List Int) (vn : Value) (ln : List Int) (wr : World) : Prop :=
  ∃ (bA bB : List Nat) (vF : List Value) (F : Sets), bA.length = k + 1 ∧ bB.length = k + 1 ∧ LkM wr n base bR gF gA gB gFr gW rv bA bB (List.replicate (k + 1) []) (List.replicate (k + 1) []) vF F (List.replicate k true ++ List.replicate (n - k) false) ∧ DJ vF (.slice (some ⟨gT, 0, none⟩) n n) ∧
    wr.ownsRow base 3 1 (.slice (some ⟨gT, 0, none⟩) n n) n (i64s (rng k ++ List.replicate (n - k) 0)) ∧ FromK r F k d ∧ Below base w0 wr ∧ DJ vF vn ∧ wr.ownsRow base 3 1 vn ln.length (i64s ln)
theorem InRel.two {r : RowD} {n base bR gF gA gB gFr gW gT k : Nat} {rv : Array Value} {w0 w w' : World} {vn : Value} {ln : List Int} (h : InRel r n base bR gF gA gB gFr gW gT rv w0 k [] (k + 1) w) (ho : w'.ownsRow w.heap.size 3 1 vn ln.length (i64s ln)) (hb : Below w.heap.size w w') :
    InRel2 r n base bR gF gA gB gFr gW gT rv w0 k [] vn ln w' := by
  obtain ⟨bA, bB, vF, F, h1, h2, h3, h4, h5, h6, h7⟩ := h
  have hz := h3.base_lt
  refine ⟨bA, bB, vF, F, h1, h2, h3.grown hb, h4, own_below h5 hb (Nat.le_refl _), h6, h7.trans (hb.mono hz), ⟨h4.1, fun a ha g hg e => ?_⟩, own_mono ho hz⟩
  obtain ⟨i, hi⟩ := List.mem_iff_getElem?.1 ha
  have hl : i < F.length := by rw [← h3.rf.1]; exact (List.getElem?_eq_some_iff.1 hi).1
  have q1 := ((h3.rf.2 i a _ hi (List.getElem?_eq_getElem hl)).lt g hg).2
  have q2 := (ho.lt g e).1
  omega
theorem InRel2.one {r : RowD} {n base bR gF gA gB gFr gW gT k : Nat} {d : List Int} {rv : Array Value} {w0 w : World} {vn : Value} {ln : List Int} (h : InRel2 r n base bR gF gA gB gFr gW gT rv w0 k d vn ln w) : InRel r n base bR gF gA gB gFr gW gT rv w0 k d (k + 1) w := by
  obtain ⟨bA, bB, vF, F, h1, h2, h3, h4, h5, h6, h7, _⟩ := h
  exact ⟨bA, bB, vF, F, h1, h2, h3, h4, h5, h6, h7⟩
/-- the instruction is marked: it waits -/
theorem InRel.mark {r : RowD} {n base bR gF gA gB gFr gW gT k : Nat} {d : List Int} {c : CodeD} {rv : Array Value} {w0 w : World} (h : InRel r n base bR gF gA gB gFr gW gT rv w0 k d (k + 1) w) (hc : r.code[k]? = some c) (hd : ∀ x, x ∈ nextOf c k → x ∈ d) (hl : d.length ≤ 66) (hk : k < n) (hT : base ≤ gT) :
    InRel r n base bR gF gA gB gFr gW gT rv w0 (k + 1) [] (k + 1) ((w.setCell ⟨gT, k, none⟩ (.int .i64 (k : Int))).setCell ⟨gW, k, none⟩ (.bool true)) := by
  obtain ⟨bA, bB, vF, F, h1, h2, h3, h4, h5, h6, h7⟩ := h
  obtain ⟨s1, s2⟩ := h5.stored k (.int .i64 (k : Int))
  have m := h3.keep s2 (fun g t cs hb q1 q2 => own_ne h5 hb (fun e => q1 e.symm)) (fun b m hb => hb.own_ne h5) (fun u hu g hg => h4.2 u hu g hg)
  have m2 := m.wait k true
  rw [wt_set hk] at m2
  have e : (i64s (rng k ++ List.replicate (n - k) 0)).set k (.int .i64 (k : Int)) = i64s (rng (k + 1) ++ List.replicate (n - (k + 1)) 0) := by
    rw [← rng_set hk]
    simp [i64s, List.map_set]
  rw [e] at s1
  refine ⟨bA, bB, vF, F, h1, h2, m2, h4, own_other s1 (own_ne s1 m.w (by decide)), h6.next hc hd hl, (h7.setCell (p := ⟨gT, k, none⟩) hT _).setCell (p := ⟨gW, k, none⟩) h3.lW _⟩
theorem InRel.drew {r : RowD} {n base bR gF gA gB gFr gW gT k j : Nat} {d : List Int} {rv : Array Value} {w0 w : World} (h : InRel r n base bR gF gA gB gFr gW gT rv w0 k d j w) : InRel r n base bR gF gA gB gFr gW gT rv w0 k d j w.drew := by
  obtain ⟨bA, bB, vF, F, h1, h2, h3, h4, h5, h6, h7⟩ := h
  exact ⟨bA, bB, vF, F, h1, h2, h3.drew, h4, own_drew h5, h6, h7.drew⟩
/-- the search under way -/
def MainRel (r : RowD) (n base bR gF gA gB gFr gW : Nat) (rv : Array Value) (w0 : World) (bA bB : List Nat) (vF : List Value) (F : Sets) (v : Value) (T : List Int) (A B : Sets) (wt : List Bool) (X : List Int) (wr : World) : Prop :=
  LkM wr n base bR gF gA gB gFr gW rv bA bB A B vF F wt ∧ DJ vF v ∧ wr.ownsRow base 3 1 v T.length (i64s T) ∧ LkInv r A B T wt X ∧ Below base w0 wr
def muL (n p : Nat) (A : Sets) (T : List Int) : Nat := (n * p - sumL A) * (n + 1) + T.length
theorem InRel.main {r : RowD} {n base bR gF gA gB gFr gW gT : Nat} {rv : Array Value} {w0 w : World} (h : InRel r n base bR gF gA gB gFr gW gT rv w0 n [] n w) (hn : r.code.length = n) :
    ∃ bA bB vF F, bA.length = n ∧ bB.length = n ∧ FromOk r F ∧ MainRel r n base bR gF gA gB gFr gW rv w0 bA bB vF F (.slice (some ⟨gT, 0, none⟩) n n) (rng n) (List.replicate n []) (List.replicate n []) (List.replicate n true) [] w := by
  obtain ⟨bA, bB, vF, F, h1, h2, h3, h4, h5, h6, h7⟩ := h
  simp only [Nat.sub_self, List.replicate_zero, List.append_nil] at h3 h5
  refine ⟨bA, bB, vF, F, h1, h2, h6.done hn, h3, h4, ?_, LkInv.start hn, h7⟩
  rw [rng_len]
  exact h5
/-- an instruction at work: the memory -/
def WkRel (n base bR gF gA gB gFr gW : Nat) (rv : Array Value) (w0 : World) (bA bB : List Nat) (vF : List Value) (F : Sets) (v : Value) (T : List Int) (gC : Nat) (cc : Array Value) (A B : Sets) (wt : List Bool) (w : World) : Prop :=
  LkM w n base bR gF gA gB gFr gW rv bA bB A B vF F wt ∧ DJ vF v ∧ w.ownsRow base 3 1 v T.length (i64s T) ∧ Blk w gC 43 cc ∧ base ≤ gC ∧ Below base w0 w
section
variable {n base bR gF gA gB gFr gW gC : Nat} {rv cc : Array Value} {w0 w w' : World} {bA bB : List Nat} {vF : List Value} {F A B : Sets} {v : Value} {T : List Int} {wt : List Bool}
theorem WkRel.grown (h : WkRel n base bR gF gA gB gFr gW rv w0 bA bB vF F v T gC cc A B wt w) (hb : Below w.heap.size w w') : WkRel n base bR gF gA gB gFr gW rv w0 bA bB vF F v T gC cc A B wt w' := by
  obtain ⟨h1, h2, h3, h4, h5, h6⟩ := h
  exact ⟨h1.grown hb, h2, own_below h3 hb (Nat.le_refl _), h4.below hb h4.lt, h5, h6.trans (hb.mono h1.base_lt)⟩
theorem WkRel.drew (h : WkRel n base bR gF gA gB gFr gW rv w0 bA bB vF F v T gC cc A B wt w) : WkRel n base bR gF gA gB gFr gW rv w0 bA bB vF F v T gC cc A B wt w.drew := by
  obtain ⟨h1, h2, h3, h4, h5, h6⟩ := h
  exact ⟨h1.drew, h2, own_drew h3, h4.drew, h5, h6.drew⟩
theorem WkRel.putA (h : WkRel n base bR gF gA gB gFr gW rv w0 bA bB vF F v T gC cc A B wt w) {i b : Nat} {s s' : List Int} (hb : bA[i]? = some b) (hs : A[i]? = some s) (hg : w.grownBy w' (some b)) (hm : IM w' b (setKV s')) :
    WkRel n base bR gF gA gB gFr gW rv w0 bA bB vF F v T gC cc (A.set i s') B wt w' := by
  obtain ⟨h1, h2, h3, h4, h5, h6⟩ := h
  have hi := h1.ma i b s hb hs
  exact ⟨h1.putA hb hs hg hm, h2, own_grown h3 hg (fun g hgg e => hi.own_ne h3 (hgg.trans e.symm)), h4.grown hg (fun e => by injection e with e; exact hi.blk_ne h4 e), h5, below_grown h6 hg h1.base_lt (fun g hgg => by injection hgg with hgg; rw [← hgg]; exact h1.lm b (List.mem_append_left _ (List.mem_of_getElem? hb)))⟩
theorem WkRel.putB (h : WkRel n base bR gF gA gB gFr gW rv w0 bA bB vF F v T gC cc A B wt w) {i b : Nat} {s s' : List Int} (hb : bB[i]? = some b) (hs : B[i]? = some s) (hg : w.grownBy w' (some b)) (hm : IM w' b (setKV s')) :
    WkRel n base bR gF gA gB gFr gW rv w0 bA bB vF F v T gC cc A (B.set i s') wt w' := by
  obtain ⟨h1, h2, h3, h4, h5, h6⟩ := h
  have hi := h1.mb i b s hb hs
  exact ⟨h1.putB hb hs hg hm, h2, own_grown h3 hg (fun g hgg e => hi.own_ne h3 (hgg.trans e.symm)), h4.grown hg (fun e => by injection e with e; exact hi.blk_ne h4 e), h5, below_grown h6 hg h1.base_lt (fun g hgg => by injection hgg with hgg; rw [← hgg]; exact h1.lm b (List.mem_append_right _ (List.mem_of_getElem? hb)))⟩
end
theorem MainRel.pop {r : RowD} {n base bR gF gA gB gFr gW gT t cT i : Nat} {rv cc : Array Value} {w0 w : World} {bA bB : List Nat} {vF : List Value} {F A B : Sets} {T : List Int} {x : Int} {wt : List Bool} {X : List Int}
    (h : MainRel r n base bR gF gA gB gFr gW rv w0 bA bB vF F (.slice (some ⟨gT, 0, none⟩) (t + 1) cT) (T ++ [x]) A B wt X w) (ht : T.length = t) :
    WkRel n base bR gF gA gB gFr gW rv w0 bA bB vF F (.slice (some ⟨gT, 0, none⟩) t cT) T w.heap.size cc A B (wt.set i false) ((w.setCell ⟨gW, i, none⟩ (.bool false)).alloc (.cells cc 43)) := by
  obtain ⟨h1, h2, h3, _, h5⟩ := h
  have hl : (T ++ [x]).length = t + 1 := by simp [ht]
  rw [hl] at h3
  have ho := own_take (k := t) h3 (by omega) (by simp)
  have e : (i64s (T ++ [x])).take (t * 1) = i64s T := by
    rw [Nat.mul_one, ← ht]
    unfold i64s
    rw [List.map_append, List.take_left' (by simp)]
  rw [e] at ho
  have m1 := h1.wait i false
  have hz : (w.setCell ⟨gW, i, none⟩ (.bool false)).heap.size = w.heap.size := by simp
  have q : (Value.slice (some ⟨gT, 0, none⟩) t cT).ownBlock ≠ some gW := own_ne ho h1.w (by decide)
  refine ⟨m1.grown ((Below.refl _ _).alloc (Nat.le_refl _) _), ⟨h2.1, fun a ha g hg => h2.2 a ha g hg⟩, ?_, Blk.newAt _ _ _ hz, h1.base_lt, (h5.setCell (p := ⟨gW, i, none⟩) h1.lW _).alloc (by rw [hz]; exact h1.base_lt) _⟩
  rw [ht]
  exact own_alloc (own_other ho q) _
theorem todo_len {r : RowD} {A B : Sets} {T X : List Int} {wt : List Bool} (h : LkInv r A B T wt X) : T.length ≤ r.code.length :=
  nodup_range_len h.tn (fun x hx => by obtain ⟨i, e, hi⟩ := h.tr x hx; omega)
theorem it_ne_im {w : World} {b b' r : Nat} {m m' L : KV} (h : IT w b r m L) (h' : IM w b' m') : b' ≠ r := by
  obtain ⟨es, clock, seen, h1, h2, h3, h4, h5, _⟩ := h
  obtain ⟨es', clock', h1', _⟩ := h'
  intro e
  subst e
  rw [h1'] at h5
  cases h5
end Go.Proofs.Ytkfnnmdghibjbaa
