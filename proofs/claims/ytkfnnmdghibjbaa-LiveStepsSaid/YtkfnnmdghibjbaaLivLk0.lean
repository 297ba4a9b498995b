/-
  What is live, by going round: what the search of live.look keeps, in plain words.
  Conditions: the row may be.
-/
import Derived.Test.YtkfnnmdghibjbaaLivLists
namespace Go.Bk.Liv
open Go Go.Bk
/-- places of an instruction that may be are places of the row -/
theorem codeOk_places {e : EnvD} {r : RowD} {c : CodeD} (h : codeOk e r c = true) : (∀ x ∈ c.args, 0 ≤ x ∧ x < r.places) ∧ (∀ x ∈ c.outs, 0 ≤ x ∧ x < r.places) ∧ c.outs.Nodup := by
  unfold codeOk at h
  split at h
  · cases h
  · simp only [Bool.and_eq_true, decide_eq_true_eq] at h
    obtain ⟨_, h1, h2, h3, _⟩ := h
    refine ⟨fun x hx => ?_, fun x hx => ?_, h3⟩
    · have := List.all_eq_true.1 h1 x hx
      simpa using this
    · have := List.all_eq_true.1 h2 x hx
      simpa using this
theorem Live.range {e : EnvD} {r : RowD} (h : CheckP e r) {i : Nat} {x : Int} (hl : Live r i x) : 0 ≤ x ∧ x < r.places := by
  induction hl with
  | arg hc hx => exact (codeOk_places (h.code _ (List.mem_of_getElem? hc))).1 _ hx
  | step _ _ _ _ ih => exact ih
theorem LiveB.range {e : EnvD} {r : RowD} (h : CheckP e r) {i : Nat} {x : Int} (hl : LiveB r i x) : 0 ≤ x ∧ x < r.places := by
  obtain ⟨_, _, k, _, hk⟩ := hl
  exact hk.range h
/-- what is live behind, and is no Out, is live ahead -/
theorem LiveB.ahead {r : RowD} {i : Nat} {c : CodeD} {x : Int} (hc : r.code[i]? = some c) (h : LiveB r i x) (ho : x ∉ c.outs) : Live r i x := by
  obtain ⟨c', hc', k, hk, hl⟩ := h
  rw [hc] at hc'
  injection hc' with hc'
  subst hc'
  exact .step hc hk hl ho
theorem Live.cases' {r : RowD} {i : Nat} {x : Int} (h : Live r i x) : ∃ c, r.code[i]? = some c ∧ (x ∈ c.args ∨ (LiveB r i x ∧ x ∉ c.outs)) := by
  cases h with
  | arg hc hx => exact ⟨_, hc, .inl hx⟩
  | step hc hk hl ho => exact ⟨_, hc, .inr ⟨⟨_, hc, _, hk, hl⟩, ho⟩⟩

abbrev Sets := List (List Int)
/-- an instruction whose sets hold what they must, as the others' stand -/
def Stab (r : RowD) (A B : Sets) (i : Nat) : Prop := ∀ c s t, r.code[i]? = some c → A[i]? = some s → B[i]? = some t → (∀ x ∈ c.args, x ∈ s) ∧ ∀ k : Nat, (k : Int) ∈ nextOf c i → ∀ u, A[k]? = some u → ∀ x ∈ u, x ∈ t ∧ (x ∉ c.outs → x ∈ s)
/-- sets that hold nothing but what is live -/
structure Snd (r : RowD) (A B : Sets) : Prop where
  lA : A.length = r.code.length
  lB : B.length = r.code.length
  nA : ∀ s ∈ A, s.Nodup
  nB : ∀ s ∈ B, s.Nodup
  sA : ∀ (i : Nat) s x, A[i]? = some s → x ∈ s → Live r i x
  sB : ∀ (i : Nat) s x, B[i]? = some s → x ∈ s → LiveB r i x
/-- where all are stable, the sets are just what is live -/
theorem all_stable {r : RowD} (hf : FlowOk r) {A B : Sets} (hs : Snd r A B) (h : ∀ i, i < r.code.length → Stab r A B i) :
    (∀ (i : Nat) s x, A[i]? = some s → (x ∈ s ↔ Live r i x)) ∧ (∀ (i : Nat) s x, B[i]? = some s → (x ∈ s ↔ LiveB r i x)) := by
  have key : ∀ (i : Nat) x, Live r i x → ∀ s, A[i]? = some s → x ∈ s := by
    intro i x hl
    induction hl with
    | arg hc hx =>
      rename_i i c p
      intro s hsA
      have hlt := (List.getElem?_eq_some_iff.1 hc).1
      exact (h i hlt c s _ hc hsA (List.getElem?_eq_getElem (by rw [hs.lB]; exact hlt))).1 _ hx
    | step hc hk hl ho ih =>
      rename_i i k c p
      intro s hsA
      have hlt := (List.getElem?_eq_some_iff.1 hc).1
      have hkr := (hf.to i c hc).1 _ hk
      have hkl : k < A.length := by rw [hs.lA]; omega
      have hu := List.getElem?_eq_getElem hkl
      exact ((h i hlt c s _ hc hsA (List.getElem?_eq_getElem (by rw [hs.lB]; exact hlt))).2 k hk _ hu _ (ih _ hu)).2 ho
  refine ⟨fun i s x hi => ⟨hs.sA i s x hi, fun hl => key i x hl s hi⟩, fun i s x hi => ⟨hs.sB i s x hi, fun hl => ?_⟩⟩
  obtain ⟨c, hc, k, hk, hlk⟩ := hl
  have hlt := (List.getElem?_eq_some_iff.1 hc).1
  have hkr := (hf.to i c hc).1 _ hk
  have hkl : k < A.length := by rw [hs.lA]; omega
  have hu := List.getElem?_eq_getElem hkl
  exact ((h i hlt c _ s hc (List.getElem?_eq_getElem (by rw [hs.lA]; exact hlt)) hi).2 k hk _ hu _ (key k x hlk _ hu)).1

/-- what the search keeps: who waits, and that whoever does not is stable -/
structure LkInv (r : RowD) (A B : Sets) (todo : List Int) (wt : List Bool) (X : List Int) : Prop where
  s : Snd r A B
  lw : wt.length = r.code.length
  tn : todo.Nodup
  tr : ∀ x ∈ todo, ∃ i : Nat, x = i ∧ i < r.code.length
  tw : ∀ i : Nat, wt[i]? = some true ↔ (i : Int) ∈ todo
  st : ∀ i, i < r.code.length → (i : Int) ∉ todo → (i : Int) ∉ X → Stab r A B i
/-- who comes ahead of each -/
def FromOk (r : RowD) (F : Sets) : Prop := F.length = r.code.length ∧ (∀ (k : Nat) l, F[k]? = some l → ∀ x ∈ l, ∃ i : Nat, x = i ∧ i < r.code.length) ∧ ∀ (i k : Nat) c l, r.code[i]? = some c → (k : Int) ∈ nextOf c i → F[k]? = some l → (i : Int) ∈ l

/-- an instruction at work: its sets so far; D are those behind it that were gone through -/
structure Work (r : RowD) (A0 B0 A B : Sets) (i : Nat) (c : CodeD) (s0 : List Int) (D : List Int) (s t : List Int) (turns : Bool) : Prop where
  a : A[i]? = some s
  b : B[i]? = some t
  ea : A = A0.set i s
  eb : B = B0.set i t
  i0 : A0[i]? = some s0
  snd : Snd r A B
  arg : ∀ x ∈ c.args, x ∈ s
  don : ∀ k : Nat, (k : Int) ∈ D → ∀ u, A[k]? = some u → ∀ x ∈ u, x ∈ t ∧ (x ∉ c.outs → x ∈ s)
  inc : ∀ x ∈ s0, x ∈ s
  ln : turns = true → s0.length < s.length
  ls : turns = false → s = s0

theorem set_get {α : Type} {l : List α} {i j : Nat} {x y : α} (h : (l.set i x)[j]? = some y) : (i = j ∧ y = x ∧ i < l.length) ∨ (i ≠ j ∧ l[j]? = some y) := by
  by_cases e : i = j
  · subst e
    by_cases hl : i < l.length
    · rw [List.getElem?_set_self hl] at h
      injection h with h
      exact .inl ⟨rfl, h.symm, hl⟩
    · rw [List.getElem?_eq_none (by simp; omega)] at h
      cases h
  · rw [List.getElem?_set_ne e] at h
    exact .inr ⟨e, h⟩
theorem Snd.setA {r : RowD} {A B : Sets} (h : Snd r A B) {i : Nat} {s : List Int} (hn : s.Nodup) (hl : ∀ x ∈ s, Live r i x) : Snd r (A.set i s) B :=
  { h with lA := by rw [List.length_set]; exact h.lA
           nA := fun u hu => by
             rcases List.mem_or_eq_of_mem_set hu with hu | hu
             · exact h.nA u hu
             · rw [hu]; exact hn
           sA := fun j u x hj hx => by
             rcases set_get hj with ⟨e, e2, _⟩ | ⟨e, e2⟩
             · subst e; subst e2; exact hl x hx
             · exact h.sA j u x e2 hx }
theorem Snd.setB {r : RowD} {A B : Sets} (h : Snd r A B) {i : Nat} {s : List Int} (hn : s.Nodup) (hl : ∀ x ∈ s, LiveB r i x) : Snd r A (B.set i s) :=
  { h with lB := by rw [List.length_set]; exact h.lB
           nB := fun u hu => by
             rcases List.mem_or_eq_of_mem_set hu with hu | hu
             · exact h.nB u hu
             · rw [hu]; exact hn
           sB := fun j u x hj hx => by
             rcases set_get hj with ⟨e, e2, _⟩ | ⟨e, e2⟩
             · subst e; subst e2; exact hl x hx
             · exact h.sB j u x e2 hx }
theorem Snd.getA {r : RowD} {A B : Sets} (h : Snd r A B) {i : Nat} {s : List Int} (hi : A[i]? = some s) : s.Nodup := h.nA s (List.mem_of_getElem? hi)
theorem Snd.getB {r : RowD} {A B : Sets} (h : Snd r A B) {i : Nat} {s : List Int} (hi : B[i]? = some s) : s.Nodup := h.nB s (List.mem_of_getElem? hi)

/-- the Args are put in -/
theorem Work.start {r : RowD} {A B : Sets} {i : Nat} {c : CodeD} {s t : List Int} (h : Snd r A B) (hc : r.code[i]? = some c) (ha : A[i]? = some s) (hb : B[i]? = some t) :
    Work r A B (A.set i (insAll s c.args)) B i c s [] (insAll s c.args) t (decide (s.length < (insAll s c.args).length)) where
  a := by rw [List.getElem?_set_self (List.getElem?_eq_some_iff.1 ha).1]
  b := hb
  ea := rfl
  eb := by
    obtain ⟨hl, e⟩ := List.getElem?_eq_some_iff.1 hb
    rw [← e, List.set_getElem_self]
  i0 := ha
  snd := h.setA (insAll_nodup (h.getA ha)) (fun x hx => by
    rcases mem_insAll.1 hx with hx | hx
    · exact h.sA i s x ha hx
    · exact .arg hc hx)
  arg x hx := mem_insAll.2 (.inr hx)
  don k hk := by simp at hk
  inc x hx := mem_insAll.2 (.inl hx)
  ln h := by simpa using h
  ls h := insAll_same (by simp at h; exact h)
/-- a place is live behind -/
theorem Work.behind {r : RowD} {A0 B0 A B : Sets} {i : Nat} {c : CodeD} {s0 D s t : List Int} {b : Bool} (h : Work r A0 B0 A B i c s0 D s t b) {p : Int} (hp : LiveB r i p) :
    Work r A0 B0 A (B.set i (ins t p)) i c s0 D s (ins t p) b where
  a := h.a
  b := by rw [List.getElem?_set_self (List.getElem?_eq_some_iff.1 h.b).1]
  ea := h.ea
  eb := by rw [h.eb, List.set_set]
  i0 := h.i0
  snd := h.snd.setB (ins_nodup (h.snd.getB h.b)) (fun x hx => by
    rcases mem_ins.1 hx with hx | hx
    · exact h.snd.sB i t x h.b hx
    · rw [hx]; exact hp)
  arg := h.arg
  don k hk u hu x hx := ⟨mem_ins.2 (.inl (h.don k hk u hu x hx).1), (h.don k hk u hu x hx).2⟩
  inc := h.inc
  ln := h.ln
  ls := h.ls
/-- a place is live ahead, and was not known -/
theorem Work.fresh {r : RowD} {A0 B0 A B : Sets} {i : Nat} {c : CodeD} {s0 D s t : List Int} {b : Bool} (h : Work r A0 B0 A B i c s0 D s t b) {p : Int} (hp : Live r i p) (hn : p ∉ s) (ht : p ∈ t) :
    Work r A0 B0 (A.set i (s ++ [p])) B i c s0 D (s ++ [p]) t true where
  a := by rw [List.getElem?_set_self (List.getElem?_eq_some_iff.1 h.a).1]
  b := h.b
  ea := by rw [h.ea, List.set_set]
  eb := h.eb
  i0 := h.i0
  snd := h.snd.setA (by
    rw [List.nodup_append]
    exact ⟨h.snd.getA h.a, by simp, fun a ha b hb e => by simp at hb; subst hb; subst e; exact hn ha⟩) (fun x hx => by
    rcases List.mem_append.1 hx with hx | hx
    · exact h.snd.sA i s x h.a hx
    · simp at hx; rw [hx]; exact hp)
  arg x hx := List.mem_append_left _ (h.arg x hx)
  don k hk u hu x hx := by
    rcases set_get hu with ⟨e, e2, _⟩ | ⟨e, e2⟩
    · subst e
      subst e2
      rcases List.mem_append.1 hx with hx | hx
      · have := h.don i hk s h.a x hx
        exact ⟨this.1, fun ho => List.mem_append_left _ (this.2 ho)⟩
      · simp at hx
        subst hx
        exact ⟨ht, fun _ => by simp⟩
    · have := h.don k hk u e2 x hx
      exact ⟨this.1, fun ho => List.mem_append_left _ (this.2 ho)⟩
  inc x hx := List.mem_append_left _ (h.inc x hx)
  ln _ := by
    cases b with
    | true => have := h.ln rfl; simp; omega
    | false => rw [h.ls rfl]; simp
  ls h := by cases h
/-- one behind it was gone through -/
theorem Work.next {r : RowD} {A0 B0 A B : Sets} {i : Nat} {c : CodeD} {s0 D s t : List Int} {b : Bool} (h : Work r A0 B0 A B i c s0 D s t b) {k : Nat} {u : List Int} (hu : A[k]? = some u)
    (hall : ∀ x ∈ u, x ∈ t ∧ (x ∉ c.outs → x ∈ s)) : Work r A0 B0 A B i c s0 (D ++ [(k : Int)]) s t b := by
  refine { h with don := fun k' hk' u' hu' x hx => ?_ }
  rcases List.mem_append.1 hk' with hk' | hk'
  · exact h.don k' hk' u' hu' x hx
  · simp at hk'
    have e : k' = k := by omega
    subst e
    rw [hu] at hu'
    injection hu' with hu'
    subst hu'
    exact hall x hx
/-- it is stable now; whoever comes ahead of it may be no more, if its set has grown -/
theorem LkInv.done {r : RowD} {A0 B0 A B : Sets} {T : List Int} {wt : List Bool} {i : Nat} {c : CodeD} {s0 D s t : List Int} {b : Bool} {F : Sets} {l : List Int} (h : LkInv r A0 B0 (T ++ [(i : Int)]) wt []) (hc : r.code[i]? = some c)
    (hw : Work r A0 B0 A B i c s0 D s t b) (hD : ∀ k : Nat, (k : Int) ∈ nextOf c i → (k : Int) ∈ D) (hF : FromOk r F) (hl : F[i]? = some l) : LkInv r A B T (wt.set i false) (if b then l else []) where
  s := hw.snd
  lw := by rw [List.length_set]; exact h.lw
  tn := (List.nodup_append.1 h.tn).1
  tr x hx := h.tr x (List.mem_append_left _ hx)
  tw j := by
    have hnd := List.nodup_append.1 h.tn
    by_cases e : i = j
    · subst e
      rw [List.getElem?_set_self (by rw [h.lw]; exact (List.getElem?_eq_some_iff.1 hc).1)]
      constructor
      · intro e; cases e
      · intro hT; exact absurd rfl (hnd.2.2 _ hT _ (by simp))
    · rw [List.getElem?_set_ne e, h.tw j, List.mem_append]
      constructor
      · rintro (h | h)
        · exact h
        · simp at h; omega
      · exact .inl
  st j hj hjT hjX := by
    have eA : ∀ k : Nat, k ≠ i → A[k]? = A0[k]? := fun k hk => by rw [hw.ea, List.getElem?_set_ne (fun e => hk e.symm)]
    have eB : ∀ k : Nat, k ≠ i → B[k]? = B0[k]? := fun k hk => by rw [hw.eb, List.getElem?_set_ne (fun e => hk e.symm)]
    intro c' s' t' hc' hs' ht'
    by_cases e : j = i
    · subst e
      rw [hc] at hc'
      injection hc' with hc'
      subst hc'
      rw [hw.a] at hs'
      rw [hw.b] at ht'
      injection hs' with hs'
      injection ht' with ht'
      subst hs'
      subst ht'
      exact ⟨hw.arg, fun k hk u hu x hx => hw.don k (hD k hk) u hu x hx⟩
    · have hst := h.st j hj (fun hin => by
        rcases List.mem_append.1 hin with h1 | h1
        · exact hjT h1
        · simp at h1; omega) (by simp)
      rw [eA j e] at hs'
      rw [eB j e] at ht'
      obtain ⟨q1, q2⟩ := hst c' s' t' hc' hs' ht'
      refine ⟨q1, fun k hk u hu x hx => ?_⟩
      by_cases ek : k = i
      · subst ek
        cases b with
        | false =>
          have : s = s0 := hw.ls rfl
          rw [hw.a] at hu
          injection hu with hu
          subst hu
          exact q2 k hk s (by rw [this]; exact hw.i0) x hx
        | true =>
          exact absurd (hF.2.2 j k c' l hc' hk hl) (by simpa using hjX)
      · rw [eA k ek] at hu
        exact q2 k hk u hu x hx
theorem LkInv.wait {r : RowD} {A B : Sets} {todo X : List Int} {wt : List Bool} {j : Nat} (h : LkInv r A B todo wt ((j : Int) :: X)) (hj : wt[j]? = some true) : LkInv r A B todo wt X :=
  { h with st := fun i hi h1 h2 => h.st i hi h1 (fun h3 => by
      rcases List.mem_cons.1 h3 with h3 | h3
      · have : i = j := by omega
        subst this
        exact h1 ((h.tw i).1 hj)
      · exact h2 h3) }
theorem LkInv.push {r : RowD} {A B : Sets} {todo X : List Int} {wt : List Bool} {j : Nat} (h : LkInv r A B todo wt ((j : Int) :: X)) (hj : wt[j]? = some false) : LkInv r A B (todo ++ [(j : Int)]) (wt.set j true) X := by
  have hjl := (List.getElem?_eq_some_iff.1 hj).1
  have hjt : (j : Int) ∉ todo := fun hin => by have := (h.tw j).2 hin; rw [hj] at this; cases this
  refine { s := h.s, lw := by rw [List.length_set]; exact h.lw, tn := ?_, tr := fun x hx => ?_, tw := fun i => ?_, st := fun i hi h1 h2 => ?_ }
  · rw [List.nodup_append]
    exact ⟨h.tn, by simp, fun a ha b hb e => by simp at hb; subst hb; subst e; exact hjt ha⟩
  · rcases List.mem_append.1 hx with hx | hx
    · exact h.tr x hx
    · simp at hx; exact ⟨j, hx, by rw [← h.lw]; exact hjl⟩
  · by_cases e : j = i
    · subst e
      rw [List.getElem?_set_self hjl]
      simp
    · rw [List.getElem?_set_ne e, h.tw i, List.mem_append]
      constructor
      · exact .inl
      · rintro (h | h)
        · exact h
        · simp at h; omega
  · refine h.st i hi (fun hin => h1 (List.mem_append_left _ hin)) (fun h3 => ?_)
    rcases List.mem_cons.1 h3 with h3 | h3
    · exact h1 (by rw [h3]; simp)
    · exact h2 h3
/-- at the start all wait -/
theorem LkInv.start {r : RowD} {n : Nat} (hn : r.code.length = n) : LkInv r (List.replicate n []) (List.replicate n []) ((List.range n).map fun i : Nat => (i : Int)) (List.replicate n true) [] := by
  have g : ∀ (i : Nat) s x, (List.replicate n ([] : List Int))[i]? = some s → x ∈ s → False := by
    intro i s x h hx
    obtain ⟨hl, e⟩ := List.getElem?_eq_some_iff.1 h
    simp at e
    subst e
    simp at hx
  refine { s := { lA := by simp [hn], lB := by simp [hn], nA := ?_, nB := ?_, sA := fun i s x h hx => (g i s x h hx).elim, sB := fun i s x h hx => (g i s x h hx).elim }, lw := by simp [hn], tn := ?_, tr := fun x hx => ?_, tw := fun i => ?_, st := fun i hi h1 h2 => ?_ }
  · intro s hs; have := List.eq_of_mem_replicate hs; rw [this]; simp
  · intro s hs; have := List.eq_of_mem_replicate hs; rw [this]; simp
  · exact List.Pairwise.map (fun i : Nat => (i : Int)) (fun a b h e => h (by omega)) List.nodup_range
  · obtain ⟨i, hi, e⟩ := List.mem_map.1 hx
    exact ⟨i, e.symm, by rw [hn]; exact List.mem_range.1 hi⟩
  · rw [List.getElem?_replicate]
    constructor
    · intro h
      split at h
      · rename_i hl
        exact List.mem_map.2 ⟨i, List.mem_range.2 hl, rfl⟩
      · cases h
    · intro h
      obtain ⟨j, hj, e⟩ := List.mem_map.1 h
      have : j = i := by omega
      subst this
      rw [if_pos (List.mem_range.1 hj)]
  · exact absurd (List.mem_map.2 ⟨i, List.mem_range.2 (by omega), rfl⟩) h1

/-- how much may still be put in -/
def sumL (A : Sets) : Nat := (A.map List.length).sum
theorem sum_set {A : Sets} {i : Nat} {s s' : List Int} (h : A[i]? = some s) : sumL (A.set i s') + s.length = sumL A + s'.length := by
  unfold sumL
  induction A generalizing i with
  | nil => simp at h
  | cons a A ih =>
    cases i with
    | zero =>
      simp at h
      subst h
      simp
      omega
    | succ i =>
      simp at h
      have := ih h
      simp only [List.set_cons_succ, List.map_cons, List.sum_cons]
      omega
theorem nodup_range_len {s : List Int} {m : Nat} (hn : s.Nodup) (h : ∀ x ∈ s, 0 ≤ x ∧ x < m) : s.length ≤ m := by
  have h1 : s.length ≤ ((List.range m).map fun i : Nat => (i : Int)).length := List.Nodup.length_le_of_subset hn fun x hx => by
    have := h x hx
    exact List.mem_map.2 ⟨x.toNat, List.mem_range.2 (by omega), by omega⟩
  simpa using h1
theorem sum_le {A : Sets} {m : Nat} (h : ∀ s ∈ A, s.length ≤ m) : sumL A ≤ A.length * m := by
  unfold sumL
  induction A with
  | nil => simp
  | cons a A ih =>
    have h1 := h a (by simp)
    have h2 := ih (fun s hs => h s (by simp [hs]))
    simp
    rw [Nat.add_mul]
    omega
/-- the sets have no more than all places -/
theorem Snd.small {e : EnvD} {r : RowD} (hc : CheckP e r) {A B : Sets} (h : Snd r A B) : (∀ s ∈ A, s.length ≤ r.places.toNat) ∧ (∀ s ∈ B, s.length ≤ r.places.toNat) := by
  have hp := hc.p1
  refine ⟨fun s hs => ?_, fun s hs => ?_⟩
  · obtain ⟨i, hi⟩ := List.mem_iff_getElem?.1 hs
    exact nodup_range_len (h.nA s hs) (fun x hx => by have := (h.sA i s x hi hx).range hc; omega)
  · obtain ⟨i, hi⟩ := List.mem_iff_getElem?.1 hs
    exact nodup_range_len (h.nB s hs) (fun x hx => by have := (h.sB i s x hi hx).range hc; omega)
end Go.Bk.Liv
