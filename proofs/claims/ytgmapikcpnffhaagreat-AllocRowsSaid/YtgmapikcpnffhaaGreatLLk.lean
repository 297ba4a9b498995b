/-
 What the search of live.look keeps, in plain words and in memory.
 Conditions: none.
-/
import Derived.Test.YtgmapikcpnffhaaGreatLivLists
import Derived.Test.YtgmapikcpnffhaaGreatLivNx
namespace Go.Bk.Liv
open Go Go.Bk
/-- places of an instruction that may be are places of the row -/
theorem codeOk_places {e : EnvD} {r : RowD} {c : CodeD} (h : codeOk e r c = true) : (∀ x ∈ c.args, 0 ≤ x ∧ x < r.places) ∧ (∀ x ∈ c.outs, 0 ≤ x ∧ x < r.places) ∧ c.outs.Nodup := by
 unfold codeOk at h
 split at h
 ·cases h
 ·simp only [Bool.and_eq_true, decide_eq_true_eq] at h
  obtain ⟨_, h1, h2, h3, _⟩ := h
  refine ⟨fun x hx => ?_, fun x hx => ?_, h3⟩
  ·have := List.all_eq_true.1 h1 x hx
   simpa using this
  ·have := List.all_eq_true.1 h2 x hx
   simpa using this
theorem Live.range {e : EnvD} {r : RowD} (h : CheckP e r) {i : Nat} {x : Int} (hl : Live r i x) : 0 ≤ x ∧ x < r.places := by
 induction hl with
 | arg hc hx => exact (codeOk_places (h.code _ (List.mem_of_getElem? hc))).1 _ hx
 | step _ _ _ _ ih => exact ih
theorem LiveB.range {e : EnvD} {r : RowD} (h : CheckP e r) {i : Nat} {x : Int} (hl : LiveB r i x) : 0 ≤ x ∧ x < r.places := by
 obtain ⟨_, _, k, _, hk⟩ := hl
 exact hk.range h
/-- what is live behind, and is no Out, is live ahead -/
theorem LiveB.ahead {r : RowD} {i : Nat} {c : CodeD} {x : Int} (hc : r.code[i]? = some c) (h : LiveB r i x) (ho : x ∉ c.outs) : Live r i x := by
 obtain ⟨c', hc', k, hk, hl⟩ := h
 rw [hc] at hc'
 injection hc' with hc'
 subst hc'
 exact .step hc hk hl ho
abbrev Sets := List (List Int)
/-- an instruction whose sets hold what they must, as the others' stand -/
def Stab (r : RowD) (A B : Sets) (i : Nat) : Prop := ∀ c s t, r.code[i]? = some c → A[i]? = some s → B[i]? = some t → (∀ x ∈ c.args, x ∈ s) ∧ ∀ k : Nat, (k : Int) ∈ nextOf c i → ∀ u, A[k]? = some u → ∀ x ∈ u, x ∈ t ∧ (x ∉ c.outs → x ∈ s)
/-- sets that hold nothing but what is live -/
structure Snd (r : RowD) (A B : Sets) : Prop where
 lA : A.length = r.code.length
 lB : B.length = r.code.length
 nA : ∀ s ∈ A, s.Nodup
 nB : ∀ s ∈ B, s.Nodup
 sA : ∀ (i : Nat) s x, A[i]? = some s → x ∈ s → Live r i x
 sB : ∀ (i : Nat) s x, B[i]? = some s → x ∈ s → LiveB r i x
/-- where all are stable, the sets are just what is live -/
theorem all_stable {r : RowD} (hf : FlowOk r) {A B : Sets} (hs : Snd r A B) (h : ∀ i, i < r.code.length → Stab r A B i) :
  (∀ (i : Nat) s x, A[i]? = some s → (x ∈ s ↔ Live r i x)) ∧ (∀ (i : Nat) s x, B[i]? = some s → (x ∈ s ↔ LiveB r i x)) := by
 have key : ∀ (i : Nat) x, Live r i x → ∀ s, A[i]? = some s → x ∈ s := by
  intro i x hl
  induction hl with
  | arg hc hx =>
   rename_i i c p
   intro s hsA
   have hlt := (List.getElem?_eq_some_iff.1 hc).1
   exact (h i hlt c s _ hc hsA (List.getElem?_eq_getElem (by rw [hs.lB]; exact hlt))).1 _ hx
  | step hc hk hl ho ih =>
   rename_i i k c p
   intro s hsA
   have hlt := (List.getElem?_eq_some_iff.1 hc).1
   have hkr := (hf.to i c hc).1 _ hk
   have hkl : k < A.length := by rw [hs.lA]; omega
   have hu := List.getElem?_eq_getElem hkl
   exact ((h i hlt c s _ hc hsA (List.getElem?_eq_getElem (by rw [hs.lB]; exact hlt))).2 k hk _ hu _ (ih _ hu)).2 ho
 refine ⟨fun i s x hi => ⟨hs.sA i s x hi, fun hl => key i x hl s hi⟩, fun i s x hi => ⟨hs.sB i s x hi, fun hl => ?_⟩⟩
 obtain ⟨c, hc, k, hk, hlk⟩ := hl
 have hlt := (List.getElem?_eq_some_iff.1 hc).1
 have hkr := (hf.to i c hc).1 _ hk
 have hkl : k < A.length := by rw [hs.lA]; omega
 have hu := List.getElem?_eq_getElem hkl
 exact ((h i hlt c _ s hc (List.getElem?_eq_getElem (by rw [hs.lA]; exact hlt)) hi).2 k hk _ hu _ (key k x hlk _ hu)).1

/-- what the search keeps: who waits, and that whoever does not is stable -/
structure LkInv (r : RowD) (A B : Sets) (todo : List Int) (wt : List Bool) (X : List Int) : Prop where
 s : Snd r A B
 lw : wt.length = r.code.length
 tn : todo.Nodup
 tr : ∀ x ∈ todo, ∃ i : Nat, x = i ∧ i < r.code.length
 tw : ∀ i : Nat, wt[i]? = some true ↔ (i : Int) ∈ todo
 st : ∀ i, i < r.code.length → (i : Int) ∉ todo → (i : Int) ∉ X → Stab r A B i
/-- who comes ahead of each -/
def FromOk (r : RowD) (F : Sets) : Prop := F.length = r.code.length ∧ (∀ (k : Nat) l, F[k]? = some l → ∀ x ∈ l, ∃ i : Nat, x = i ∧ i < r.code.length) ∧ ∀ (i k : Nat) c l, r.code[i]? = some c → (k : Int) ∈ nextOf c i → F[k]? = some l → (i : Int) ∈ l

/-- an instruction at work: its sets so far; D are those behind it that were gone through -/
structure Work (r : RowD) (A0 B0 A B : Sets) (i : Nat) (c : CodeD) (s0 : List Int) (D : List Int) (s t : List Int) (turns : Bool) : Prop where
 a : A[i]? = some s
 b : B[i]? = some t
 ea : A = A0.set i s
 eb : B = B0.set i t
 i0 : A0[i]? = some s0
 snd : Snd r A B
 arg : ∀ x ∈ c.args, x ∈ s
 don : ∀ k : Nat, (k : Int) ∈ D → ∀ u, A[k]? = some u → ∀ x ∈ u, x ∈ t ∧ (x ∉ c.outs → x ∈ s)
 inc : ∀ x ∈ s0, x ∈ s
 ln : turns = true → s0.length < s.length
 ls : turns = false → s = s0

theorem set_get {α : Type} {l : List α} {i j : Nat} {x y : α} (h : (l.set i x)[j]? = some y) : (i = j ∧ y = x ∧ i < l.length) ∨ (i ≠ j ∧ l[j]? = some y) := by
 by_cases e : i = j
 ·subst e
  by_cases hl : i < l.length
  ·rw [List.getElem?_set_self hl] at h
   injection h with h
   exact .inl ⟨rfl, h.symm, hl⟩
  ·rw [List.getElem?_eq_none (by simp; omega)] at h
   cases h
 ·rw [List.getElem?_set_ne e] at h
  exact .inr ⟨e, h⟩
theorem Snd.setA {r : RowD} {A B : Sets} (h : Snd r A B) {i : Nat} {s : List Int} (hn : s.Nodup) (hl : ∀ x ∈ s, Live r i x) : Snd r (A.set i s) B :=
  { h with lA := by rw [List.length_set]; exact h.lA
           nA := fun u hu => by
             rcases List.mem_or_eq_of_mem_set hu with hu | hu
             · exact h.nA u hu
             · rw [hu]; exact hn
           sA := fun j u x hj hx => by
             rcases set_get hj with ⟨e, e2, _⟩ | ⟨e, e2⟩
             · subst e; subst e2; exact hl x hx
             · exact h.sA j u x e2 hx }
theorem Snd.setB {r : RowD} {A B : Sets} (h : Snd r A B) {i : Nat} {s : List Int} (hn : s.Nodup) (hl : ∀ x ∈ s, LiveB r i x) : Snd r A (B.set i s) :=
  { h with lB := by rw [List.length_set]; exact h.lB
           nB := fun u hu => by
             rcases List.mem_or_eq_of_mem_set hu with hu | hu
             · exact h.nB u hu
             · rw [hu]; exact hn
           sB := fun j u x hj hx => by
             rcases set_get hj with ⟨e, e2, _⟩ | ⟨e, e2⟩
             · subst e; subst e2; exact hl x hx
             · exact h.sB j u x e2 hx }
theorem Snd.getA {r : RowD} {A B : Sets} (h : Snd r A B) {i : Nat} {s : List Int} (hi : A[i]? = some s) : s.Nodup := h.nA s (List.mem_of_getElem? hi)
theorem Snd.getB {r : RowD} {A B : Sets} (h : Snd r A B) {i : Nat} {s : List Int} (hi : B[i]? = some s) : s.Nodup := h.nB s (List.mem_of_getElem? hi)

/-- the Args are put in -/
theorem Work.start {r : RowD} {A B : Sets} {i : Nat} {c : CodeD} {s t : List Int} (h : Snd r A B) (hc : r.code[i]? = some c) (ha : A[i]? = some s) (hb : B[i]? = some t) :
  Work r A B (A.set i (insAll s c.args)) B i c s [] (insAll s c.args) t (decide (s.length < (insAll s c.args).length)) where
 a := by rw [List.getElem?_set_self (List.getElem?_eq_some_iff.1 ha).1]
 b := hb
 ea := rfl
 eb := by
  obtain ⟨hl, e⟩ := List.getElem?_eq_some_iff.1 hb
  rw [← e, List.set_getElem_self]
 i0 := ha
 snd := h.setA (insAll_nodup (h.getA ha)) (fun x hx => by
  rcases mem_insAll.1 hx with hx | hx
  ·exact h.sA i s x ha hx
  ·exact .arg hc hx)
 arg x hx := mem_insAll.2 (.inr hx)
 don k hk := by simp at hk
 inc x hx := mem_insAll.2 (.inl hx)
 ln h := by simpa using h
 ls h := insAll_same (by simp at h; exact h)
/-- a place is live behind -/
theorem Work.behind {r : RowD} {A0 B0 A B : Sets} {i : Nat} {c : CodeD} {s0 D s t : List Int} {b : Bool} (h : Work r A0 B0 A B i c s0 D s t b) {p : Int} (hp : LiveB r i p) :
  Work r A0 B0 A (B.set i (ins t p)) i c s0 D s (ins t p) b where
 a := h.a
 b := by rw [List.getElem?_set_self (List.getElem?_eq_some_iff.1 h.b).1]
 ea := h.ea
 eb := by rw [h.eb, List.set_set]
 i0 := h.i0
 snd := h.snd.setB (ins_nodup (h.snd.getB h.b)) (fun x hx => by
  rcases mem_ins.1 hx with hx | hx
  ·exact h.snd.sB i t x h.b hx
  ·rw [hx]; exact hp)
 arg := h.arg
 don k hk u hu x hx := ⟨mem_ins.2 (.inl (h.don k hk u hu x hx).1), (h.don k hk u hu x hx).2⟩
 inc := h.inc
 ln := h.ln
 ls := h.ls
/-- a place is live ahead, and was not known -/
theorem Work.fresh {r : RowD} {A0 B0 A B : Sets} {i : Nat} {c : CodeD} {s0 D s t : List Int} {b : Bool} (h : Work r A0 B0 A B i c s0 D s t b) {p : Int} (hp : Live r i p) (hn : p ∉ s) (ht : p ∈ t) :
  Work r A0 B0 (A.set i (s ++ [p])) B i c s0 D (s ++ [p]) t true where
 a := by rw [List.getElem?_set_self (List.getElem?_eq_some_iff.1 h.a).1]
 b := h.b
 ea := by rw [h.ea, List.set_set]
 eb := h.eb
 i0 := h.i0
 snd := h.snd.setA (by
  rw [List.nodup_append]
  exact ⟨h.snd.getA h.a, by simp, fun a ha b hb e => by simp at hb; subst hb; subst e; exact hn ha⟩) (fun x hx => by
  rcases List.mem_append.1 hx with hx | hx
  ·exact h.snd.sA i s x h.a hx
  ·simp at hx; rw [hx]; exact hp)
 arg x hx := List.mem_append_left _ (h.arg x hx)
 don k hk u hu x hx := by
  rcases set_get hu with ⟨e, e2, _⟩ | ⟨e, e2⟩
  ·subst e
   subst e2
   rcases List.mem_append.1 hx with hx | hx
   ·have := h.don i hk s h.a x hx
    exact ⟨this.1, fun ho => List.mem_append_left _ (this.2 ho)⟩
   ·simp at hx
    subst hx
    exact ⟨ht, fun _ => by simp⟩
  ·have := h.don k hk u e2 x hx
   exact ⟨this.1, fun ho => List.mem_append_left _ (this.2 ho)⟩
 inc x hx := List.mem_append_left _ (h.inc x hx)
 ln _ := by
  cases b with
  | true => have := h.ln rfl; simp; omega
  | false => rw [h.ls rfl]; simp
 ls h := by cases h
/-- one behind it was gone through -/
theorem Work.next {r : RowD} {A0 B0 A B : Sets} {i : Nat} {c : CodeD} {s0 D s t : List Int} {b : Bool} (h : Work r A0 B0 A B i c s0 D s t b) {k : Nat} {u : List Int} (hu : A[k]? = some u)
  (hall : ∀ x ∈ u, x ∈ t ∧ (x ∉ c.outs → x ∈ s)) : Work r A0 B0 A B i c s0 (D ++ [(k : Int)]) s t b := by
 refine { h with don := fun k' hk' u' hu' x hx => ?_ }
 rcases List.mem_append.1 hk' with hk' | hk'
 ·exact h.don k' hk' u' hu' x hx
 ·simp at hk'
  have e : k' = k := by omega
  subst e
  rw [hu] at hu'
  injection hu' with hu'
  subst hu'
  exact hall x hx
/-- it is stable now; whoever comes ahead of it may be no more, if its set has grown -/
theorem LkInv.done {r : RowD} {A0 B0 A B : Sets} {T : List Int} {wt : List Bool} {i : Nat} {c : CodeD} {s0 D s t : List Int} {b : Bool} {F : Sets} {l : List Int} (h : LkInv r A0 B0 (T ++ [(i : Int)]) wt []) (hc : r.code[i]? = some c)
  (hw : Work r A0 B0 A B i c s0 D s t b) (hD : ∀ k : Nat, (k : Int) ∈ nextOf c i → (k : Int) ∈ D) (hF : FromOk r F) (hl : F[i]? = some l) : LkInv r A B T (wt.set i false) (if b then l else []) where
 s := hw.snd
 lw := by rw [List.length_set]; exact h.lw
 tn := (List.nodup_append.1 h.tn).1
 tr x hx := h.tr x (List.mem_append_left _ hx)
 tw j := by
  have hnd := List.nodup_append.1 h.tn
  by_cases e : i = j
  ·subst e
   rw [List.getElem?_set_self (by rw [h.lw]; exact (List.getElem?_eq_some_iff.1 hc).1)]
   constructor
   ·intro e; cases e
   ·intro hT; exact absurd rfl (hnd.2.2 _ hT _ (by simp))
  ·rw [List.getElem?_set_ne e, h.tw j, List.mem_append]
   constructor
   ·rintro (h | h)
    ·exact h
    ·simp at h; omega
   ·exact .inl
 st j hj hjT hjX := by
  have eA : ∀ k : Nat, k ≠ i → A[k]? = A0[k]? := fun k hk => by rw [hw.ea, List.getElem?_set_ne (fun e => hk e.symm)]
  have eB : ∀ k : Nat, k ≠ i → B[k]? = B0[k]? := fun k hk => by rw [hw.eb, List.getElem?_set_ne (fun e => hk e.symm)]
  intro c' s' t' hc' hs' ht'
  by_cases e : j = i
  ·subst e
   rw [hc] at hc'
   injection hc' with hc'
   subst hc'
   rw [hw.a] at hs'
   rw [hw.b] at ht'
   injection hs' with hs'
   injection ht' with ht'
   subst hs'
   subst ht'
   exact ⟨hw.arg, fun k hk u hu x hx => hw.don k (hD k hk) u hu x hx⟩
  ·have hst := h.st j hj (fun hin => by
    rcases List.mem_append.1 hin with h1 | h1
    ·exact hjT h1
    ·simp at h1; omega) (by simp)
   rw [eA j e] at hs'
   rw [eB j e] at ht'
   obtain ⟨q1, q2⟩ := hst c' s' t' hc' hs' ht'
   refine ⟨q1, fun k hk u hu x hx => ?_⟩
   by_cases ek : k = i
   ·subst ek
    cases b with
    | false =>
     have : s = s0 := hw.ls rfl
     rw [hw.a] at hu
     injection hu with hu
     subst hu
     exact q2 k hk s (by rw [this]; exact hw.i0) x hx
    | true =>
     exact absurd (hF.2.2 j k c' l hc' hk hl) (by simpa using hjX)
   ·rw [eA k ek] at hu
    exact q2 k hk u hu x hx
theorem LkInv.wait {r : RowD} {A B : Sets} {todo X : List Int} {wt : List Bool} {j : Nat} (h : LkInv r A B todo wt ((j : Int) :: X)) (hj : wt[j]? = some true) : LkInv r A B todo wt X :=
  { h with st := fun i hi h1 h2 => h.st i hi h1 (fun h3 => by
      rcases List.mem_cons.1 h3 with h3 | h3
      · have : i = j := by omega
        subst this
        exact h1 ((h.tw i).1 hj)
      · exact h2 h3) }
theorem LkInv.push {r : RowD} {A B : Sets} {todo X : List Int} {wt : List Bool} {j : Nat} (h : LkInv r A B todo wt ((j : Int) :: X)) (hj : wt[j]? = some false) : LkInv r A B (todo ++ [(j : Int)]) (wt.set j true) X := by
 have hjl := (List.getElem?_eq_some_iff.1 hj).1
 have hjt : (j : Int) ∉ todo := fun hin => by have := (h.tw j).2 hin; rw [hj] at this; cases this
 refine { s := h.s, lw := by rw [List.length_set]; exact h.lw, tn := ?_, tr := fun x hx => ?_, tw := fun i => ?_, st := fun i hi h1 h2 => ?_ }
 ·rw [List.nodup_append]
  exact ⟨h.tn, by simp, fun a ha b hb e => by simp at hb; subst hb; subst e; exact hjt ha⟩
 ·rcases List.mem_append.1 hx with hx | hx
  ·exact h.tr x hx
  ·simp at hx; exact ⟨j, hx, by rw [← h.lw]; exact hjl⟩
 ·by_cases e : j = i
  ·subst e
   rw [List.getElem?_set_self hjl]
   simp
  ·rw [List.getElem?_set_ne e, h.tw i, List.mem_append]
   constructor
   ·exact .inl
   ·rintro (h | h)
    ·exact h
    ·simp at h; omega
 ·refine h.st i hi (fun hin => h1 (List.mem_append_left _ hin)) (fun h3 => ?_)
  rcases List.mem_cons.1 h3 with h3 | h3
  ·exact h1 (by rw [h3]; simp)
  ·exact h2 h3
/-- at the start all wait -/
theorem LkInv.start {r : RowD} {n : Nat} (hn : r.code.length = n) : LkInv r (List.replicate n []) (List.replicate n []) ((List.range n).map fun i : Nat => (i : Int)) (List.replicate n true) [] := by
 have g : ∀ (i : Nat) s x, (List.replicate n ([] : List Int))[i]? = some s → x ∈ s → False := by
  intro i s x h hx
  obtain ⟨hl, e⟩ := List.getElem?_eq_some_iff.1 h
  simp at e
  subst e
  simp at hx
 refine { s := { lA := by simp [hn], lB := by simp [hn], nA := ?_, nB := ?_, sA := fun i s x h hx => (g i s x h hx).elim, sB := fun i s x h hx => (g i s x h hx).elim }, lw := by simp [hn], tn := ?_, tr := fun x hx => ?_, tw := fun i => ?_, st := fun i hi h1 h2 => ?_ }
 ·intro s hs; have := List.eq_of_mem_replicate hs; rw [this]; simp
 ·intro s hs; have := List.eq_of_mem_replicate hs; rw [this]; simp
 ·exact List.Pairwise.map (fun i : Nat => (i : Int)) (fun a b h e => h (by omega)) List.nodup_range
 ·obtain ⟨i, hi, e⟩ := List.mem_map.1 hx
  exact ⟨i, e.symm, by rw [hn]; exact List.mem_range.1 hi⟩
 ·rw [List.getElem?_replicate]
  constructor
  ·intro h
   split at h
   ·rename_i hl
    exact List.mem_map.2 ⟨i, List.mem_range.2 hl, rfl⟩
   ·cases h
  ·intro h
   obtain ⟨j, hj, e⟩ := List.mem_map.1 h
   have : j = i := by omega
   subst this
   rw [if_pos (List.mem_range.1 hj)]
 ·exact absurd (List.mem_map.2 ⟨i, List.mem_range.2 (by omega), rfl⟩) h1

/-- how much may still be put in -/
def sumL (A : Sets) : Nat := (A.map List.length).sum
theorem sum_set {A : Sets} {i : Nat} {s s' : List Int} (h : A[i]? = some s) : sumL (A.set i s') + s.length = sumL A + s'.length := by
 unfold sumL
 induction A generalizing i with
 | nil => simp at h
 | cons a A ih =>
  cases i with
  | zero =>
   simp at h
   subst h
   simp
   omega
  | succ i =>
   simp at h
   have := ih h
   simp only [List.set_cons_succ, List.map_cons, List.sum_cons]
   omega
theorem nodup_range_len {s : List Int} {m : Nat} (hn : s.Nodup) (h : ∀ x ∈ s, 0 ≤ x ∧ x < m) : s.length ≤ m := by
 have h1 : s.length ≤ ((List.range m).map fun i : Nat => (i : Int)).length := List.Nodup.length_le_of_subset hn fun x hx => by
  have := h x hx
  exact List.mem_map.2 ⟨x.toNat, List.mem_range.2 (by omega), by omega⟩
 simpa using h1
theorem sum_le {A : Sets} {m : Nat} (h : ∀ s ∈ A, s.length ≤ m) : sumL A ≤ A.length * m := by
 unfold sumL
 induction A with
 | nil => simp
 | cons a A ih =>
  have h1 := h a (by simp)
  have h2 := ih (fun s hs => h s (by simp [hs]))
  simp
  rw [Nat.add_mul]
  omega
/-- the sets have no more than all places -/
theorem Snd.small {e : EnvD} {r : RowD} (hc : CheckP e r) {A B : Sets} (h : Snd r A B) : (∀ s ∈ A, s.length ≤ r.places.toNat) ∧ (∀ s ∈ B, s.length ≤ r.places.toNat) := by
 have hp := hc.p1
 refine ⟨fun s hs => ?_, fun s hs => ?_⟩
 ·obtain ⟨i, hi⟩ := List.mem_iff_getElem?.1 hs
  exact nodup_range_len (h.nA s hs) (fun x hx => by have := (h.sA i s x hi hx).range hc; omega)
 ·obtain ⟨i, hi⟩ := List.mem_iff_getElem?.1 hs
  exact nodup_range_len (h.nB s hs) (fun x hx => by have := (h.sB i s x hi hx).range hc; omega)
end Go.Bk.Liv
namespace Go.Proofs.YtgmapikcpnffhaaGreat
open Go.RowKit Go.Bk Go.Bk.Liv
set_option linter.unusedVariables false
set_option linter.unusedSimpArgs false

/-- sets in memory, the first of them made already -/
def setsV (bA : List Nat) (n : Nat) : Array Value := (mapsV bA ++ List.replicate (n - bA.length) (Value.map none)).toArray
theorem setsV_at {bA : List Nat} {n i b : Nat} (h : bA[i]? = some b) : (setsV bA n)[i]? = some (.map (some b)) := by
 unfold setsV
 have hl := (List.getElem?_eq_some_iff.1 h).1
 rw [List.getElem?_toArray, List.getElem?_append_left (by rw [mapsV_len]; exact hl)]
 simp [mapsV, h]
theorem setsV_full {bA : List Nat} {n : Nat} (h : bA.length = n) : setsV bA n = (mapsV bA).toArray := by
 unfold setsV
 rw [h, Nat.sub_self]
 simp
theorem setsV_push {bA : List Nat} {n b : Nat} (h : bA.length < n) : (setsV bA n).setIfInBounds bA.length (.map (some b)) = setsV (bA ++ [b]) n := by
 unfold setsV
 apply Array.ext_getElem?
 intro j
 have e : n - bA.length = (n - (bA ++ [b]).length) + 1 := by simp; omega
 rw [e, List.replicate_succ]
 rw [Array.getElem?_setIfInBounds]
 have hl := mapsV_len bA
 by_cases hj : bA.length = j
 ·subst hj
  rw [if_pos rfl, if_pos (by simp [hl])]
  simp [mapsV]
 ·rw [if_neg hj]
  simp only [List.getElem?_toArray]
  have e2 : mapsV (bA ++ [b]) = mapsV bA ++ [.map (some b)] := by simp [mapsV]
  rw [e2, List.append_assoc]
  by_cases hlt : j < bA.length
  ·rw [List.getElem?_append_left (by omega), List.getElem?_append_left (by omega)]
  ·rw [List.getElem?_append_right (by omega), List.getElem?_append_right (by omega), hl]
   have hp : 0 < j - bA.length := by omega
   obtain ⟨q, hq⟩ : ∃ q, j - bA.length = q + 1 := ⟨j - bA.length - 1, by omega⟩
   rw [hq]
   simp

structure LkM (w : World) (n base bR gF gA gB gFr gW : Nat) (rv : Array Value) (bA bB : List Nat) (A B : Sets) (vF : List Value) (F : Sets) (wt : List Bool) : Prop where
 r : Blk w bR 31 rv
 f : Blk w gF 117 #[.slice (some ⟨gA, 0, none⟩) n n, .slice (some ⟨gB, 0, none⟩) n n]
 a : Blk w gA 113 (setsV bA n)
 b : Blk w gB 113 (setsV bB n)
 la : bA.length = A.length
 lb : bB.length = B.length
 ma : ∀ (i : Nat) b s, bA[i]? = some b → A[i]? = some s → IM w b (setKV s)
 mb : ∀ (i : Nat) b s, bB[i]? = some b → B[i]? = some s → IM w b (setKV s)
 nd : (bA ++ bB).Nodup
 fr : Blk w gFr 23 vF.toArray
 rf : RowsOf w base vF F
 w : Blk w gW 4 (boolsV wt).toArray
 lR : base ≤ bR
 lF : base ≤ gF
 lA : base ≤ gA
 lB : base ≤ gB
 lr : base ≤ gFr
 lW : base ≤ gW
 lm : ∀ b ∈ bA ++ bB, base ≤ b
 hab : gA ≠ gB

section
variable {w w' : World} {n base bR gF gA gB gFr gW : Nat} {rv : Array Value} {bA bB : List Nat} {A B : Sets} {vF : List Value} {F : Sets} {wt : List Bool}
theorem LkM.base_lt (h : LkM w n base bR gF gA gB gFr gW rv bA bB A B vF F wt) : base ≤ w.heap.size := Nat.le_of_lt (Nat.lt_of_le_of_lt h.lR h.r.lt)
/-- memory of which only another block was written -/
theorem LkM.keep {r : Option Nat} (h : LkM w n base bR gF gA gB gFr gW rv bA bB A B vF F wt) (hg : w.grownBy w' r) (h1 : ∀ g t cs, Blk w g t cs → t ≠ 3 → t ≠ 48 → r ≠ some g) (h2 : ∀ b m, IM w b m → r ≠ some b) (h3 : ∀ u ∈ vF, ∀ g, u.ownBlock = some g → r ≠ some g) :
    LkM w' n base bR gF gA gB gFr gW rv bA bB A B vF F wt :=
  { h with r := h.r.grown hg (h1 _ _ _ h.r (by decide) (by decide)), f := h.f.grown hg (h1 _ _ _ h.f (by decide) (by decide)), a := h.a.grown hg (h1 _ _ _ h.a (by decide) (by decide)), b := h.b.grown hg (h1 _ _ _ h.b (by decide) (by decide)), fr := h.fr.grown hg (h1 _ _ _ h.fr (by decide) (by decide)), w := h.w.grown hg (h1 _ _ _ h.w (by decide) (by decide)),
           ma := fun i b s q1 q2 => (h.ma i b s q1 q2).grown hg (h2 _ _ (h.ma i b s q1 q2)), mb := fun i b s q1 q2 => (h.mb i b s q1 q2).grown hg (h2 _ _ (h.mb i b s q1 q2)),
           rf := ⟨h.rf.1, fun i u p q1 q2 => own_grown (h.rf.2 i u p q1 q2) hg (fun g hgg => h3 u (List.mem_of_getElem? q1) g hgg)⟩ }
theorem LkM.grown (h : LkM w n base bR gF gA gB gFr gW rv bA bB A B vF F wt) (hb : Below w.heap.size w w') : LkM w' n base bR gF gA gB gFr gW rv bA bB A B vF F wt :=
 h.keep (below_grownBy hb) (fun _ _ _ _ _ _ => by simp) (fun _ _ _ => by simp) (fun _ _ _ _ => by simp)
theorem LkM.drew (h : LkM w n base bR gF gA gB gFr gW rv bA bB A B vF F wt) : LkM w.drew n base bR gF gA gB gFr gW rv bA bB A B vF F wt :=
 { r := h.r, f := h.f, a := h.a, b := h.b, la := h.la, lb := h.lb, ma := h.ma, mb := h.mb, nd := h.nd, fr := h.fr, rf := h.rf, w := h.w, lR := h.lR, lF := h.lF, lA := h.lA, lB := h.lB, lr := h.lr, lW := h.lW, lm := h.lm, hab := h.hab }
theorem nodup_at {l : List Nat} (h : l.Nodup) {i j b : Nat} (hi : l[i]? = some b) (hj : l[j]? = some b) : i = j := by
 obtain ⟨h1, e1⟩ := List.getElem?_eq_some_iff.1 hi
 obtain ⟨h2, e2⟩ := List.getElem?_eq_some_iff.1 hj
 have hp := List.pairwise_iff_getElem.1 h
 rcases Nat.lt_trichotomy i j with hlt | he | hlt
 ·exact absurd (e1.trans e2.symm) (hp i j h1 h2 hlt)
 ·exact he
 ·exact absurd (e2.trans e1.symm) (hp j i h2 h1 hlt)
/-- a set ahead is written -/
theorem LkM.putA (h : LkM w n base bR gF gA gB gFr gW rv bA bB A B vF F wt) {i b : Nat} {s s' : List Int} (hb : bA[i]? = some b) (hs : A[i]? = some s) (hg : w.grownBy w' (some b)) (hm : IM w' b (setKV s')) :
    LkM w' n base bR gF gA gB gFr gW rv bA bB (A.set i s') B vF F wt := by
  have hi := h.ma i b s hb hs
  have hn : ∀ g t cs, Blk w g t cs → (some b : Option Nat) ≠ some g := fun g t cs hk e => by injection e with e; exact hi.blk_ne hk e
  have hnd := List.nodup_append.1 h.nd
  have ho : ∀ u p, w.ownsRow base 3 1 u p (i64s []) → True := fun _ _ _ => trivial
  refine { h with r := h.r.grown hg (hn _ _ _ h.r), f := h.f.grown hg (hn _ _ _ h.f), a := h.a.grown hg (hn _ _ _ h.a), b := h.b.grown hg (hn _ _ _ h.b), fr := h.fr.grown hg (hn _ _ _ h.fr), w := h.w.grown hg (hn _ _ _ h.w), la := by rw [List.length_set]; exact h.la,
                  ma := fun j c u q1 q2 => ?_, mb := fun j c u q1 q2 => ?_, rf := ⟨h.rf.1, fun j u p q1 q2 => ?_⟩ }
  · rcases set_get q2 with ⟨e, e2, _⟩ | ⟨e, e2⟩
    · subst e
      subst e2
      rw [hb] at q1
      injection q1 with q1
      subst q1
      exact hm
    · exact (h.ma j c u q1 e2).grown hg (fun e3 => by injection e3 with e3; subst e3; exact e (nodup_at hnd.1 hb q1))
  · refine (h.mb j c u q1 q2).grown hg (fun e3 => ?_)
    injection e3 with e3
    exact hnd.2.2 b (List.mem_of_getElem? hb) c (List.mem_of_getElem? q1) e3
  · exact own_grown (h.rf.2 j u p q1 q2) hg (fun g hgg e => by
      obtain ⟨cur, hk⟩ := own_blk (h.rf.2 j u p q1 q2) hgg
      exact hn g _ _ hk e)
/-- a set behind is written -/
theorem LkM.putB (h : LkM w n base bR gF gA gB gFr gW rv bA bB A B vF F wt) {i b : Nat} {s s' : List Int} (hb : bB[i]? = some b) (hs : B[i]? = some s) (hg : w.grownBy w' (some b)) (hm : IM w' b (setKV s')) :
    LkM w' n base bR gF gA gB gFr gW rv bA bB A (B.set i s') vF F wt := by
  have hi := h.mb i b s hb hs
  have hn : ∀ g t cs, Blk w g t cs → (some b : Option Nat) ≠ some g := fun g t cs hk e => by injection e with e; exact hi.blk_ne hk e
  have hnd := List.nodup_append.1 h.nd
  refine { h with r := h.r.grown hg (hn _ _ _ h.r), f := h.f.grown hg (hn _ _ _ h.f), a := h.a.grown hg (hn _ _ _ h.a), b := h.b.grown hg (hn _ _ _ h.b), fr := h.fr.grown hg (hn _ _ _ h.fr), w := h.w.grown hg (hn _ _ _ h.w), lb := by rw [List.length_set]; exact h.lb,
                  ma := fun j c u q1 q2 => ?_, mb := fun j c u q1 q2 => ?_, rf := ⟨h.rf.1, fun j u p q1 q2 => ?_⟩ }
  · refine (h.ma j c u q1 q2).grown hg (fun e3 => ?_)
    injection e3 with e3
    exact hnd.2.2 c (List.mem_of_getElem? q1) b (List.mem_of_getElem? hb) e3.symm
  · rcases set_get q2 with ⟨e, e2, _⟩ | ⟨e, e2⟩
    · subst e
      subst e2
      rw [hb] at q1
      injection q1 with q1
      subst q1
      exact hm
    · exact (h.mb j c u q1 e2).grown hg (fun e3 => by injection e3 with e3; subst e3; exact e (nodup_at hnd.2.1 hb q1))
  · exact own_grown (h.rf.2 j u p q1 q2) hg (fun g hgg e => by
      obtain ⟨cur, hk⟩ := own_blk (h.rf.2 j u p q1 q2) hgg
      exact hn g _ _ hk e)
/-- whether one waits is written -/
theorem LkM.wait (h : LkM w n base bR gF gA gB gFr gW rv bA bB A B vF F wt) (i : Nat) (x : Bool) : LkM (w.setCell ⟨gW, i, none⟩ (.bool x)) n base bR gF gA gB gFr gW rv bA bB A B vF F (wt.set i x) := by
  have hg := grown_setCell w gW i (.bool x)
  have hn : ∀ g t cs, Blk w g t cs → t ≠ 4 → (some gW : Option Nat) ≠ some g := fun g t cs hk ht e => by injection e with e; exact blk_ne h.w hk (fun e => ht e.symm) e
  refine { h with r := h.r.grown hg (hn _ _ _ h.r (by decide)), f := h.f.grown hg (hn _ _ _ h.f (by decide)), a := h.a.grown hg (hn _ _ _ h.a (by decide)), b := h.b.grown hg (hn _ _ _ h.b (by decide)), fr := h.fr.grown hg (hn _ _ _ h.fr (by decide)), w := ?_,
                  ma := fun j c u q1 q2 => (h.ma j c u q1 q2).grown hg (fun e => by injection e with e; exact (h.ma j c u q1 q2).blk_ne h.w e.symm),
                  mb := fun j c u q1 q2 => (h.mb j c u q1 q2).grown hg (fun e => by injection e with e; exact (h.mb j c u q1 q2).blk_ne h.w e.symm),
                  rf := ⟨h.rf.1, fun j u p q1 q2 => own_grown (h.rf.2 j u p q1 q2) hg (fun g hgg e => by
                    obtain ⟨cur, hk⟩ := own_blk (h.rf.2 j u p q1 q2) hgg
                    exact hn g _ _ hk (by decide) e)⟩ }
  have := blk_setSame h.w i (.bool x)
  have e1 : (boolsV wt).toArray.setIfInBounds i (.bool x) = (boolsV (wt.set i x)).toArray := by
    simp [boolsV, List.map_set]
  rwa [e1] at this
end
end Go.Proofs.YtgmapikcpnffhaaGreat
namespace Go.Proofs.YtgmapikcpnffhaaGreat
open Go.RowKit Go.Bk Go.Bk.Liv
set_option linter.unusedVariables false
set_option linter.unusedSimpArgs false

/-- no two rows lie in one block, nor one with another row -/
def DJ (vF : List Value) (v : Value) : Prop := (∀ (i j : Nat) a b g, i ≠ j → vF[i]? = some a → vF[j]? = some b → a.ownBlock = some g → b.ownBlock ≠ some g) ∧ ∀ a ∈ vF, ∀ g, a.ownBlock = some g → v.ownBlock ≠ some g
section
variable {w w' : World} {n base bR gF gA gB gFr gW : Nat} {rv : Array Value} {bA bB : List Nat} {A B : Sets} {vF : List Value} {F : Sets} {wt : List Bool}
theorem LkM.addA (h : LkM w n base bR gF gA gB gFr gW rv bA bB A B vF F wt) (hl : bA.length < n) {b : Nat} (hb : IM w b []) (hn : b ∉ bA ++ bB) (hlb : base ≤ b) :
  LkM (w.setCell ⟨gA, bA.length, none⟩ (.map (some b))) n base bR gF gA gB gFr gW rv (bA ++ [b]) bB (A ++ [[]]) B vF F wt := by
 have hg := grown_setCell w gA bA.length (.map (some b))
 have hk : ∀ g t cs, Blk w g t cs → g ≠ gA → Blk (w.setCell ⟨gA, bA.length, none⟩ (.map (some b))) g t cs := fun g t cs hb hne => hb.grown hg (fun e => by injection e with e; exact hne e.symm)
 have hm : ∀ c m, IM w c m → IM (w.setCell ⟨gA, bA.length, none⟩ (.map (some b))) c m := fun c m hc => hc.grown hg (fun e => by injection e with e; exact hc.blk_ne h.a e.symm)
 have hab := List.nodup_append.1 h.nd
 rw [List.mem_append, not_or] at hn
 refine { h with r := hk _ _ _ h.r (blk_ne h.r h.a (by decide)), f := hk _ _ _ h.f (blk_ne h.f h.a (by decide)), a := ?_, b := hk _ _ _ h.b (fun e => h.hab e.symm), la := by simp [h.la], ma := fun i c s q1 q2 => ?_, mb := fun i c s q1 q2 => hm _ _ (h.mb i c s q1 q2), nd := ?_, fr := hk _ _ _ h.fr (blk_ne h.fr h.a (by decide)), rf := ⟨h.rf.1, fun i u p q1 q2 => ?_⟩, w := hk _ _ _ h.w (blk_ne h.w h.a (by decide)), lm := fun c hc => ?_ }
 ·have := blk_setSame h.a bA.length (.map (some b))
  rwa [setsV_push hl] at this
 ·by_cases hi : i < A.length
  ·rw [List.getElem?_append_left (by rw [h.la]; exact hi)] at q1
   rw [List.getElem?_append_left hi] at q2
   exact hm _ _ (h.ma i c s q1 q2)
  ·rw [List.getElem?_append_right (by omega)] at q2
   have h0 : i - A.length = 0 := by
    have := (List.getElem?_eq_some_iff.1 q2).1
    simp at this
    omega
   rw [List.getElem?_append_right (by rw [h.la]; omega), h.la, h0] at q1
   rw [h0] at q2
   simp at q1 q2
   subst q1
   subst q2
   exact hm _ _ hb
 ·rw [List.append_assoc, List.nodup_append]
  refine ⟨hab.1, ?_, fun x hx y hy e => ?_⟩
  ·rw [List.nodup_append]
   exact ⟨by simp, hab.2.1, fun x hx y hy e => by simp at hx; subst hx; subst e; exact hn.2 hy⟩
  ·subst e
   rcases List.mem_append.1 hy with hy | hy
   ·simp at hy; subst hy; exact hn.1 hx
   ·exact hab.2.2 x hx x hy rfl
 ·exact own_grown (h.rf.2 i u p q1 q2) hg (fun g hgg e => by
   obtain ⟨cur, hk⟩ := own_blk (h.rf.2 i u p q1 q2) hgg
   injection e with e
   exact blk_ne h.a hk (by decide) e)
 ·rw [List.append_assoc, List.mem_append, List.mem_append] at hc
  rcases hc with hc | hc | hc
  ·exact h.lm c (List.mem_append_left _ hc)
  ·simp at hc; rw [hc]; exact hlb
  ·exact h.lm c (List.mem_append_right _ hc)
theorem LkM.addB (h : LkM w n base bR gF gA gB gFr gW rv bA bB A B vF F wt) (hl : bB.length < n) {b : Nat} (hb : IM w b []) (hn : b ∉ bA ++ bB) (hlb : base ≤ b) :
  LkM (w.setCell ⟨gB, bB.length, none⟩ (.map (some b))) n base bR gF gA gB gFr gW rv bA (bB ++ [b]) A (B ++ [[]]) vF F wt := by
 have hg := grown_setCell w gB bB.length (.map (some b))
 have hk : ∀ g t cs, Blk w g t cs → g ≠ gB → Blk (w.setCell ⟨gB, bB.length, none⟩ (.map (some b))) g t cs := fun g t cs hb hne => hb.grown hg (fun e => by injection e with e; exact hne e.symm)
 have hm : ∀ c m, IM w c m → IM (w.setCell ⟨gB, bB.length, none⟩ (.map (some b))) c m := fun c m hc => hc.grown hg (fun e => by injection e with e; exact hc.blk_ne h.b e.symm)
 have hab := List.nodup_append.1 h.nd
 rw [List.mem_append, not_or] at hn
 refine { h with r := hk _ _ _ h.r (blk_ne h.r h.b (by decide)), f := hk _ _ _ h.f (blk_ne h.f h.b (by decide)), b := ?_, a := hk _ _ _ h.a h.hab, lb := by simp [h.lb], mb := fun i c s q1 q2 => ?_, ma := fun i c s q1 q2 => hm _ _ (h.ma i c s q1 q2), nd := ?_, fr := hk _ _ _ h.fr (blk_ne h.fr h.b (by decide)), rf := ⟨h.rf.1, fun i u p q1 q2 => ?_⟩, w := hk _ _ _ h.w (blk_ne h.w h.b (by decide)), lm := fun c hc => ?_ }
 ·have := blk_setSame h.b bB.length (.map (some b))
  rwa [setsV_push hl] at this
 ·by_cases hi : i < B.length
  ·rw [List.getElem?_append_left (by rw [h.lb]; exact hi)] at q1
   rw [List.getElem?_append_left hi] at q2
   exact hm _ _ (h.mb i c s q1 q2)
  ·rw [List.getElem?_append_right (by omega)] at q2
   have h0 : i - B.length = 0 := by
    have := (List.getElem?_eq_some_iff.1 q2).1
    simp at this
    omega
   rw [List.getElem?_append_right (by rw [h.lb]; omega), h.lb, h0] at q1
   rw [h0] at q2
   simp at q1 q2
   subst q1
   subst q2
   exact hm _ _ hb
 ·rw [← List.append_assoc, List.nodup_append]
  refine ⟨h.nd, by simp, fun x hx y hy e => ?_⟩
  simp at hy
  subst hy
  subst e
  rcases List.mem_append.1 hx with hx | hx
  ·exact hn.1 hx
  ·exact hn.2 hx
 ·exact own_grown (h.rf.2 i u p q1 q2) hg (fun g hgg e => by
   obtain ⟨cur, hk⟩ := own_blk (h.rf.2 i u p q1 q2) hgg
   injection e with e
   exact blk_ne h.b hk (by decide) e)
 ·rw [← List.append_assoc, List.mem_append] at hc
  rcases hc with hc | hc
  ·exact h.lm c hc
  ·simp at hc; rw [hc]; exact hlb
/-- a number is put behind one of the rows of those that come ahead -/
theorem LkM.pushF (h : LkM w n base bR gF gA gB gFr gW rv bA bB A B vF F wt) {v : Value} {m : Nat} {xs : List Value} (hd : DJ vF v) (ho : w.ownsRow base 3 1 v m xs) {k : Nat} {u u' : Value} {l : List Int} {x : Int} (hu : vF[k]? = some u) (hl : F[k]? = some l) (hg : w.grownBy w' u.ownBlock)
    (hu' : w'.ownsRow base 3 1 u' (l.length + 1) (i64s (l ++ [x]))) (hv : u'.ownBlock = u.ownBlock ∨ u'.ownBlock = some w.heap.size) :
    LkM (w'.setCell ⟨gFr, k, none⟩ u') n base bR gF gA gB gFr gW rv bA bB A B (vF.set k u') (F.set k (l ++ [x])) wt ∧ DJ (vF.set k u') v ∧ (w'.setCell ⟨gFr, k, none⟩ u').ownsRow base 3 1 v m xs := by
  have hou := h.rf.2 k u l hu hl
  have hn1 : ∀ g t cs, Blk w g t cs → t ≠ 3 → u.ownBlock ≠ some g := fun g t cs hb ht => own_ne hou hb (fun e => ht e.symm)
  have hn2 : ∀ b m, IM w b m → u.ownBlock ≠ some b := fun b m hb => hb.own_ne hou
  have k0 := h.fr.grown hg (hn1 _ _ _ h.fr (by decide))
  have gk := grown_setCell w' gFr k u'
  have tr : ∀ g t cs, Blk w g t cs → t ≠ 3 → g ≠ gFr → Blk (w'.setCell ⟨gFr, k, none⟩ u') g t cs := fun g t cs hb ht hne => (hb.grown hg (hn1 g t cs hb ht)).grown gk (fun e => by injection e with e; exact hne e.symm)
  have tm : ∀ b m, IM w b m → IM (w'.setCell ⟨gFr, k, none⟩ u') b m := fun b m hb => (hb.grown hg (hn2 b m hb)).grown gk (fun e => by injection e with e; exact (hb.grown hg (hn2 b m hb)).blk_ne k0 e.symm)
  have hlt : ∀ a p xs, w.ownsRow base 3 1 a p xs → ∀ g, a.ownBlock = some g → g < w.heap.size := fun a p xs ha g hga => (ha.lt g hga).2
  have to : ∀ a p xs, w.ownsRow base 3 1 a p xs → (∀ g, a.ownBlock = some g → u.ownBlock ≠ some g) → (w'.setCell ⟨gFr, k, none⟩ u').ownsRow base 3 1 a p xs := fun a p xs ha hne => by
    have h1 := own_grown ha hg (fun g hga => hne g hga)
    exact own_other h1 (own_ne h1 k0 (by decide))
  refine ⟨{ h with r := tr _ _ _ h.r (by decide) (blk_ne h.r h.fr (by decide)), f := tr _ _ _ h.f (by decide) (blk_ne h.f h.fr (by decide)), a := tr _ _ _ h.a (by decide) (blk_ne h.a h.fr (by decide)), b := tr _ _ _ h.b (by decide) (blk_ne h.b h.fr (by decide)), w := tr _ _ _ h.w (by decide) (blk_ne h.w h.fr (by decide)),
                    ma := fun i b s q1 q2 => tm _ _ (h.ma i b s q1 q2), mb := fun i b s q1 q2 => tm _ _ (h.mb i b s q1 q2), fr := ?_, rf := ⟨by simp [h.rf.1], fun i a p q1 q2 => ?_⟩ }, ⟨fun i j a b g hij q1 q2 q3 => ?_, fun a ha g hga => ?_⟩, to v m xs ho (fun g hg1 e => hd.2 u (List.mem_of_getElem? hu) g e hg1)⟩
  · have := blk_setSame k0 k u'
    have e1 : vF.toArray.setIfInBounds k u' = (vF.set k u').toArray := by simp
    rwa [e1] at this
  · rcases set_get q1 with ⟨e, e2, _⟩ | ⟨e, e2⟩
    · subst e
      subst e2
      rcases set_get q2 with ⟨_, e4, _⟩ | ⟨e3, _⟩
      · subst e4
        have e5 : (l ++ [x]).length = l.length + 1 := by simp
        rw [e5]
        exact own_other hu' (own_ne hu' k0 (by decide))
      · exact absurd rfl e3
    · rw [List.getElem?_set_ne e] at q2
      exact to a _ _ (h.rf.2 i a p e2 q2) (fun g hga e3 => hd.1 i k a u g (fun e4 => e e4.symm) e2 hu hga e3)
  · rcases set_get q1 with ⟨e, e2, _⟩ | ⟨e, e2⟩
    · subst e
      subst e2
      rcases set_get q2 with ⟨e3, _, _⟩ | ⟨e3, e4⟩
      · exact absurd e3 hij
      · rcases hv with hv | hv
        · exact hd.1 k j u b g hij hu e4 (by rw [← hv]; exact q3)
        · intro e5
          rw [hv] at q3
          injection q3 with q3
          obtain ⟨p, hp⟩ : ∃ p, F[j]? = some p := ⟨_, List.getElem?_eq_getElem (by rw [← h.rf.1]; exact (List.getElem?_eq_some_iff.1 e4).1)⟩
          have := hlt b _ _ (h.rf.2 j b p e4 hp) g e5
          omega
    · rcases set_get q2 with ⟨e3, e4, _⟩ | ⟨e3, e4⟩
      · subst e3
        subst e4
        rcases hv with hv | hv
        · rw [hv]; exact hd.1 i k a u g hij e2 hu q3
        · rw [hv]
          intro e5
          injection e5 with e5
          obtain ⟨p, hp⟩ : ∃ p, F[i]? = some p := ⟨_, List.getElem?_eq_getElem (by rw [← h.rf.1]; exact (List.getElem?_eq_some_iff.1 e2).1)⟩
          have := hlt a _ _ (h.rf.2 i a p e2 hp) g q3
          omega
      · exact hd.1 i j a b g hij e2 e4 q3
  · rcases List.mem_or_eq_of_mem_set ha with ha | ha
    · exact hd.2 a ha g hga
    · subst ha
      rcases hv with hv | hv
      · exact hd.2 u (List.mem_of_getElem? hu) g (by rw [← hv]; exact hga)
      · rw [hv] at hga
        injection hga with hga
        intro e
        have := hlt v _ _ ho g e
        omega
end
end Go.Proofs.YtgmapikcpnffhaaGreat
namespace Go.Proofs.YtgmapikcpnffhaaGreat
open Go.RowKit Go.Bk Go.Bk.Liv
set_option linter.unusedVariables false
set_option linter.unusedSimpArgs false

/-- what look leaves of a row that may be -/
structure Looked (r : RowD) (w : World) (base gF gA gB : Nat) (bA bB : List Nat) (A B : Sets) : Prop where
 f : Blk w gF 117 #[.slice (some ⟨gA, 0, none⟩) r.code.length r.code.length, .slice (some ⟨gB, 0, none⟩) r.code.length r.code.length]
 a : Blk w gA 113 (mapsV bA).toArray
 b : Blk w gB 113 (mapsV bB).toArray
 la : bA.length = A.length
 lb : bB.length = B.length
 ma : ∀ (i : Nat) b s, bA[i]? = some b → A[i]? = some s → IM w b (setKV s)
 mb : ∀ (i : Nat) b s, bB[i]? = some b → B[i]? = some s → IM w b (setKV s)
 s : Snd r A B
 eA : ∀ (i : Nat) s x, A[i]? = some s → (x ∈ s ↔ Live r i x)
 eB : ∀ (i : Nat) s x, B[i]? = some s → (x ∈ s ↔ LiveB r i x)
 lF : base ≤ gF
 lA : base ≤ gA
 lB : base ≤ gB
def LookPost (e : EnvD) (r : RowD) (w : World) (en : Ending) (w' : World) : Prop :=
 (¬ CheckP e r ∧ en = .returned (.tuple #[.pointer none, .int .i64 6]) ∧ Below w.heap.size w w') ∨
 (CheckP e r ∧ ∃ gF gA gB bA bB A B, en = .returned (.tuple #[.pointer (some ⟨gF, 0, none⟩), .int .i64 0]) ∧ Looked r w' w.heap.size gF gA gB bA bB A B ∧ Below w.heap.size w w')
/-- who comes ahead of each, so far: of the instructions below k, and of k through d -/
structure FromK (r : RowD) (F : Sets) (k : Nat) (d : List Int) : Prop where
 l : F.length = r.code.length
 s : ∀ (j : Nat) l, F[j]? = some l → (∀ x ∈ l, ∃ i : Nat, x = i ∧ i < r.code.length) ∧ l.length ≤ 66 * k + d.length
 f : ∀ (i j : Nat) c l, i < k → r.code[i]? = some c → (j : Int) ∈ nextOf c i → F[j]? = some l → (i : Int) ∈ l
 d : ∀ (j : Nat) l, (j : Int) ∈ d → F[j]? = some l → (k : Int) ∈ l
theorem FromK.start {r : RowD} {n : Nat} (h : r.code.length = n) : FromK r (List.replicate n []) 0 [] where
 l := by simp [h]
 s j l hj := by
  obtain ⟨hl, e⟩ := List.getElem?_eq_some_iff.1 hj
  simp at e
  subst e
  simp
 f i j c l hi := by omega
 d j l hj := by simp at hj
theorem FromK.push {r : RowD} {F : Sets} {k j : Nat} {d l : List Int} (h : FromK r F k d) (hk : k < r.code.length) (hl : F[j]? = some l) : FromK r (F.set j (l ++ [(k : Int)])) k (d ++ [(j : Int)]) where
 l := by rw [List.length_set]; exact h.l
 s i u hu := by
  rcases set_get hu with ⟨e, e2, _⟩ | ⟨e, e2⟩
  ·subst e
   subst e2
   obtain ⟨h1, h2⟩ := h.s j l hl
   refine ⟨fun x hx => ?_, by simp; omega⟩
   rcases List.mem_append.1 hx with hx | hx
   ·exact h1 x hx
   ·simp at hx; exact ⟨k, hx, hk⟩
  ·obtain ⟨h1, h2⟩ := h.s i u e2
   exact ⟨h1, by simp; omega⟩
 f i q c u hi hc hq hu := by
  rcases set_get hu with ⟨e, e2, _⟩ | ⟨e, e2⟩
  ·subst e
   subst e2
   exact List.mem_append_left _ (h.f i j c l hi hc hq hl)
  ·exact h.f i q c u hi hc hq e2
 d q u hq hu := by
  rcases set_get hu with ⟨e, e2, _⟩ | ⟨e, e2⟩
  ·subst e2; simp
  ·rcases List.mem_append.1 hq with hq | hq
   ·exact h.d q u hq e2
   ·simp at hq; omega
theorem FromK.next {r : RowD} {F : Sets} {k : Nat} {c : CodeD} {d : List Int} (h : FromK r F k d) (hc : r.code[k]? = some c) (hd : ∀ x, x ∈ nextOf c k → x ∈ d) (hl : d.length ≤ 66) : FromK r F (k + 1) [] where
 l := h.l
 s j l hj := by
  obtain ⟨h1, h2⟩ := h.s j l hj
  exact ⟨h1, by simp; omega⟩
 f i j c' l hi hc' hj hl' := by
  by_cases e : i = k
  ·subst e
   rw [hc] at hc'
   injection hc' with hc'
   subst hc'
   exact h.d j l (hd _ hj) hl'
  ·exact h.f i j c' l (by omega) hc' hj hl'
 d j l hj := by simp at hj
theorem FromK.done {r : RowD} {F : Sets} {n : Nat} (h : FromK r F n []) (hn : r.code.length = n) : FromOk r F :=
 ⟨h.l, fun k l hk => (h.s k l hk).1, fun i k c l hc hk hl => h.f i k c l (by rw [← hn]; exact (List.getElem?_eq_some_iff.1 hc).1) hc hk hl⟩
def rng (k : Nat) : List Int := (List.range k).map fun i : Nat => (i : Int)
theorem rng_len (k : Nat) : (rng k).length = k := by simp [rng]
theorem rng_set {k n : Nat} (h : k < n) : (rng k ++ List.replicate (n - k) 0).set k (k : Int) = rng (k + 1) ++ List.replicate (n - (k + 1)) 0 := by
 obtain ⟨m, hm⟩ : ∃ m, n - k = m + 1 := ⟨n - k - 1, by omega⟩
 have hm2 : n - (k + 1) = m := by omega
 rw [hm, hm2, List.replicate_succ]
 have e : rng (k + 1) = rng k ++ [(k : Int)] := by simp [rng, List.range_succ]
 rw [e, List.set_append_right _ _ (by rw [rng_len]; exact Nat.le_refl _), rng_len, Nat.sub_self]
 simp
theorem wt_set {k n : Nat} (h : k < n) : (List.replicate k true ++ List.replicate (n - k) false).set k true = List.replicate (k + 1) true ++ List.replicate (n - (k + 1)) false := by
 obtain ⟨m, hm⟩ : ∃ m, n - k = m + 1 := ⟨n - k - 1, by omega⟩
 have hm2 : n - (k + 1) = m := by omega
 rw [hm, hm2, List.replicate_succ]
 rw [List.set_append_right _ _ (by simp), List.length_replicate, Nat.sub_self, List.replicate_succ']
 simp
/-- the memory, made for the instructions below k -/
def InRel (r : RowD) (n base bR gF gA gB gFr gW gT : Nat) (rv : Array Value) (w0 : World) (k : Nat) (d : List Int) (j : Nat) (wr : World) : Prop :=
 ∃ (bA bB : List Nat) (vF : List Value) (F : Sets), bA.length = j ∧ bB.length = j ∧ LkM wr n base bR gF gA gB gFr gW rv bA bB (List.replicate j []) (List.replicate j []) vF F (List.replicate k true ++ List.replicate (n - k) false) ∧ DJ vF (.slice (some ⟨gT, 0, none⟩) n n) ∧
  wr.ownsRow base 3 1 (.slice (some ⟨gT, 0, none⟩) n n) n (i64s (rng k ++ List.replicate (n - k) 0)) ∧ FromK r F k d ∧ Below base w0 wr
section
variable {w w' : World} {n base bR gF gA gB gFr gW : Nat} {rv : Array Value} {bA bB : List Nat} {A B : Sets} {vF : List Value} {F : Sets} {wt : List Bool}
theorem LkM.maps_lt (h : LkM w n base bR gF gA gB gFr gW rv bA bB A B vF F wt) {b : Nat} (hb : b ∈ bA ++ bB) : b < w.heap.size := by
 rcases List.mem_append.1 hb with hb | hb
 ·obtain ⟨i, hi⟩ := List.mem_iff_getElem?.1 hb
  exact (h.ma i b _ hi (List.getElem?_eq_getElem (by rw [← h.la]; exact (List.getElem?_eq_some_iff.1 hi).1))).lt
 ·obtain ⟨i, hi⟩ := List.mem_iff_getElem?.1 hb
  exact (h.mb i b _ hi (List.getElem?_eq_getElem (by rw [← h.lb]; exact (List.getElem?_eq_some_iff.1 hi).1))).lt
/-- two sets are made, in whatever order -/
theorem LkM.made (h : LkM w n base bR gF gA gB gFr gW rv bA bB A B vF F wt) {k N1 N2 : Nat} (hA : bA.length = k) (hB : bB.length = k) (hk : k < n) (hN : (N1 = w.heap.size ∧ N2 = w.heap.size + 1) ∨ (N1 = w.heap.size + 1 ∧ N2 = w.heap.size)) :
  LkM ((((w.setCell ⟨gA, k, none⟩ (.map (some N1))).setCell ⟨gB, k, none⟩ (.map (some N2))).alloc (.map #[] 0)).alloc (.map #[] 0)) n base bR gF gA gB gFr gW rv (bA ++ [N1]) (bB ++ [N2]) (A ++ [[]]) (B ++ [[]]) vF F wt := by
 subst hA
 have hz := h.base_lt
 have lA := h.a.lt
 have lB := h.b.lt
 have e : (((w.setCell ⟨gA, bA.length, none⟩ (.map (some N1))).setCell ⟨gB, bA.length, none⟩ (.map (some N2))).alloc (.map #[] 0)).alloc (.map #[] 0) = (((w.alloc (.map #[] 0)).alloc (.map #[] 0)).setCell ⟨gA, bA.length, none⟩ (.map (some N1))).setCell ⟨gB, bA.length, none⟩ (.map (some N2)) := by
  rw [World.setCell_alloc_past _ _ _ _ (show gA < (w.alloc (.map #[] 0)).heap.size by simp; omega), World.setCell_alloc_past _ _ _ _ lA, World.setCell_alloc_past _ _ _ _ (show gB < ((w.setCell ⟨gA, bA.length, none⟩ (.map (some N1))).alloc (.map #[] 0)).heap.size by simp; omega), World.setCell_alloc_past _ _ _ _ (show gB < (w.setCell ⟨gA, bA.length, none⟩ (.map (some N1))).heap.size by simp; omega)]
 rw [e]
 have h2 : LkM ((w.alloc (.map #[] 0)).alloc (.map #[] 0)) n base bR gF gA gB gFr gW rv bA bB A B vF F wt := h.grown (al2 w _ _)
 have i0 : IM ((w.alloc (.map #[] 0)).alloc (.map #[] 0)) w.heap.size [] := (IM.new w).alloc _
 have i1 : IM ((w.alloc (.map #[] 0)).alloc (.map #[] 0)) (w.heap.size + 1) [] := IM.newAt (by simp)
 have j1 : IM ((w.alloc (.map #[] 0)).alloc (.map #[] 0)) N1 [] := by rcases hN with ⟨e, _⟩ | ⟨e, _⟩ <;> rw [e] <;> assumption
 have j2 : IM ((w.alloc (.map #[] 0)).alloc (.map #[] 0)) N2 [] := by rcases hN with ⟨_, e⟩ | ⟨_, e⟩ <;> rw [e] <;> assumption
 have b1 := h2.addA hk j1 (fun hin => by have := h.maps_lt hin; omega) (by omega)
 have j3 := j2.setCell (p := ⟨gA, bA.length, none⟩) (.map (some N1)) (show N2 ≠ gA by omega)
 have b2 := b1.addB (by omega) j3 (fun hin => by
  rw [List.append_assoc, List.mem_append, List.mem_append] at hin
  rcases hin with hin | hin | hin
  ·have := h.maps_lt (List.mem_append_left _ hin); omega
  ·simp at hin; omega
  ·have := h.maps_lt (List.mem_append_right _ hin); omega) (by omega)
 rw [hB] at b2
 exact b2
end
theorem InRel.made {r : RowD} {n base bR gF gA gB gFr gW gT k N1 N2 : Nat} {rv : Array Value} {w0 w : World} (h : InRel r n base bR gF gA gB gFr gW gT rv w0 k [] k w) (hk : k < n) (hN : (N1 = w.heap.size ∧ N2 = w.heap.size + 1) ∨ (N1 = w.heap.size + 1 ∧ N2 = w.heap.size)) :
  InRel r n base bR gF gA gB gFr gW gT rv w0 k [] (k + 1) ((((w.setCell ⟨gA, k, none⟩ (.map (some N1))).setCell ⟨gB, k, none⟩ (.map (some N2))).alloc (.map #[] 0)).alloc (.map #[] 0)) := by
 obtain ⟨bA, bB, vF, F, h1, h2, h3, h4, h5, h6, h7⟩ := h
 have hz := h3.base_lt
 have m := h3.made h1 h2 hk hN
 have e : List.replicate k ([] : List Int) ++ [[]] = List.replicate (k + 1) [] := by rw [List.replicate_succ']
 rw [e] at m
 refine ⟨bA ++ [N1], bB ++ [N2], vF, F, by simp [h1], by simp [h2], m, h4, ?_, h6, ?_⟩
 ·have q1 := own_ne h5 h3.a (show (3 : Nat) ≠ 113 by decide)
  have q2 := own_ne h5 h3.b (show (3 : Nat) ≠ 113 by decide)
  exact own_alloc (own_alloc (own_other (own_other h5 q1) q2) _) _
 ·exact (((h7.setCell (p := ⟨gA, k, none⟩) h3.lA _).setCell (p := ⟨gB, k, none⟩) h3.lB _).alloc (by simp; exact hz) _).alloc (by simp; omega) _
/-- so, and those behind the instruction at work lie in a row of their own -/
def InRel2 (r : RowD) (n base bR gF gA gB gFr gW gT : Nat) (rv : Array Value) (w0 : World) (k : Nat) (d : List Int) (vn : Value) (ln : List Int) (wr : World) : Prop :=
 ∃ (bA bB : List Nat) (vF : List Value) (F : Sets), bA.length = k + 1 ∧ bB.length = k + 1 ∧ LkM wr n base bR gF gA gB gFr gW rv bA bB (List.replicate (k + 1) []) (List.replicate (k + 1) []) vF F (List.replicate k true ++ List.replicate (n - k) false) ∧ DJ vF (.slice (some ⟨gT, 0, none⟩) n n) ∧
  wr.ownsRow base 3 1 (.slice (some ⟨gT, 0, none⟩) n n) n (i64s (rng k ++ List.replicate (n - k) 0)) ∧ FromK r F k d ∧ Below base w0 wr ∧ DJ vF vn ∧ wr.ownsRow base 3 1 vn ln.length (i64s ln)
theorem InRel.two {r : RowD} {n base bR gF gA gB gFr gW gT k : Nat} {rv : Array Value} {w0 w w' : World} {vn : Value} {ln : List Int} (h : InRel r n base bR gF gA gB gFr gW gT rv w0 k [] (k + 1) w) (ho : w'.ownsRow w.heap.size 3 1 vn ln.length (i64s ln)) (hb : Below w.heap.size w w') :
  InRel2 r n base bR gF gA gB gFr gW gT rv w0 k [] vn ln w' := by
 obtain ⟨bA, bB, vF, F, h1, h2, h3, h4, h5, h6, h7⟩ := h
 have hz := h3.base_lt
 refine ⟨bA, bB, vF, F, h1, h2, h3.grown hb, h4, own_below h5 hb (Nat.le_refl _), h6, h7.trans (hb.mono hz), ⟨h4.1, fun a ha g hg e => ?_⟩, own_mono ho hz⟩
 obtain ⟨i, hi⟩ := List.mem_iff_getElem?.1 ha
 have hl : i < F.length := by rw [← h3.rf.1]; exact (List.getElem?_eq_some_iff.1 hi).1
 have q1 := ((h3.rf.2 i a _ hi (List.getElem?_eq_getElem hl)).lt g hg).2
 have q2 := (ho.lt g e).1
 omega
theorem InRel2.one {r : RowD} {n base bR gF gA gB gFr gW gT k : Nat} {d : List Int} {rv : Array Value} {w0 w : World} {vn : Value} {ln : List Int} (h : InRel2 r n base bR gF gA gB gFr gW gT rv w0 k d vn ln w) : InRel r n base bR gF gA gB gFr gW gT rv w0 k d (k + 1) w := by
 obtain ⟨bA, bB, vF, F, h1, h2, h3, h4, h5, h6, h7, _⟩ := h
 exact ⟨bA, bB, vF, F, h1, h2, h3, h4, h5, h6, h7⟩
/-- the instruction is marked: it waits -/
theorem InRel.mark {r : RowD} {n base bR gF gA gB gFr gW gT k : Nat} {d : List Int} {c : CodeD} {rv : Array Value} {w0 w : World} (h : InRel r n base bR gF gA gB gFr gW gT rv w0 k d (k + 1) w) (hc : r.code[k]? = some c) (hd : ∀ x, x ∈ nextOf c k → x ∈ d) (hl : d.length ≤ 66) (hk : k < n) (hT : base ≤ gT) :
  InRel r n base bR gF gA gB gFr gW gT rv w0 (k + 1) [] (k + 1) ((w.setCell ⟨gT, k, none⟩ (.int .i64 (k : Int))).setCell ⟨gW, k, none⟩ (.bool true)) := by
 obtain ⟨bA, bB, vF, F, h1, h2, h3, h4, h5, h6, h7⟩ := h
 obtain ⟨s1, s2⟩ := h5.stored k (.int .i64 (k : Int))
 have m := h3.keep s2 (fun g t cs hb q1 q2 => own_ne h5 hb (fun e => q1 e.symm)) (fun b m hb => hb.own_ne h5) (fun u hu g hg => h4.2 u hu g hg)
 have m2 := m.wait k true
 rw [wt_set hk] at m2
 have e : (i64s (rng k ++ List.replicate (n - k) 0)).set k (.int .i64 (k : Int)) = i64s (rng (k + 1) ++ List.replicate (n - (k + 1)) 0) := by
  rw [← rng_set hk]
  simp [i64s, List.map_set]
 rw [e] at s1
 refine ⟨bA, bB, vF, F, h1, h2, m2, h4, own_other s1 (own_ne s1 m.w (by decide)), h6.next hc hd hl, (h7.setCell (p := ⟨gT, k, none⟩) hT _).setCell (p := ⟨gW, k, none⟩) h3.lW _⟩
theorem InRel.drew {r : RowD} {n base bR gF gA gB gFr gW gT k j : Nat} {d : List Int} {rv : Array Value} {w0 w : World} (h : InRel r n base bR gF gA gB gFr gW gT rv w0 k d j w) : InRel r n base bR gF gA gB gFr gW gT rv w0 k d j w.drew := by
 obtain ⟨bA, bB, vF, F, h1, h2, h3, h4, h5, h6, h7⟩ := h
 exact ⟨bA, bB, vF, F, h1, h2, h3.drew, h4, own_drew h5, h6, h7.drew⟩
/-- the search under way -/
def MainRel (r : RowD) (n base bR gF gA gB gFr gW : Nat) (rv : Array Value) (w0 : World) (bA bB : List Nat) (vF : List Value) (F : Sets) (v : Value) (T : List Int) (A B : Sets) (wt : List Bool) (X : List Int) (wr : World) : Prop :=
 LkM wr n base bR gF gA gB gFr gW rv bA bB A B vF F wt ∧ DJ vF v ∧ wr.ownsRow base 3 1 v T.length (i64s T) ∧ LkInv r A B T wt X ∧ Below base w0 wr
def muL (n p : Nat) (A : Sets) (T : List Int) : Nat := (n * p - sumL A) * (n + 1) + T.length
theorem InRel.main {r : RowD} {n base bR gF gA gB gFr gW gT : Nat} {rv : Array Value} {w0 w : World} (h : InRel r n base bR gF gA gB gFr gW gT rv w0 n [] n w) (hn : r.code.length = n) :
  ∃ bA bB vF F, bA.length = n ∧ bB.length = n ∧ FromOk r F ∧ MainRel r n base bR gF gA gB gFr gW rv w0 bA bB vF F (.slice (some ⟨gT, 0, none⟩) n n) (rng n) (List.replicate n []) (List.replicate n []) (List.replicate n true) [] w := by
 obtain ⟨bA, bB, vF, F, h1, h2, h3, h4, h5, h6, h7⟩ := h
 simp only [Nat.sub_self, List.replicate_zero, List.append_nil] at h3 h5
 refine ⟨bA, bB, vF, F, h1, h2, h6.done hn, h3, h4, ?_, LkInv.start hn, h7⟩
 rw [rng_len]
 exact h5
/-- an instruction at work: the memory -/
def WkRel (n base bR gF gA gB gFr gW : Nat) (rv : Array Value) (w0 : World) (bA bB : List Nat) (vF : List Value) (F : Sets) (v : Value) (T : List Int) (gC : Nat) (cc : Array Value) (A B : Sets) (wt : List Bool) (w : World) : Prop :=
 LkM w n base bR gF gA gB gFr gW rv bA bB A B vF F wt ∧ DJ vF v ∧ w.ownsRow base 3 1 v T.length (i64s T) ∧ Blk w gC 48 cc ∧ base ≤ gC ∧ Below base w0 w
section
variable {n base bR gF gA gB gFr gW gC : Nat} {rv cc : Array Value} {w0 w w' : World} {bA bB : List Nat} {vF : List Value} {F A B : Sets} {v : Value} {T : List Int} {wt : List Bool}
theorem WkRel.grown (h : WkRel n base bR gF gA gB gFr gW rv w0 bA bB vF F v T gC cc A B wt w) (hb : Below w.heap.size w w') : WkRel n base bR gF gA gB gFr gW rv w0 bA bB vF F v T gC cc A B wt w' := by
 obtain ⟨h1, h2, h3, h4, h5, h6⟩ := h
 exact ⟨h1.grown hb, h2, own_below h3 hb (Nat.le_refl _), h4.below hb h4.lt, h5, h6.trans (hb.mono h1.base_lt)⟩
theorem WkRel.drew (h : WkRel n base bR gF gA gB gFr gW rv w0 bA bB vF F v T gC cc A B wt w) : WkRel n base bR gF gA gB gFr gW rv w0 bA bB vF F v T gC cc A B wt w.drew := by
 obtain ⟨h1, h2, h3, h4, h5, h6⟩ := h
 exact ⟨h1.drew, h2, own_drew h3, h4.drew, h5, h6.drew⟩
theorem WkRel.putA (h : WkRel n base bR gF gA gB gFr gW rv w0 bA bB vF F v T gC cc A B wt w) {i b : Nat} {s s' : List Int} (hb : bA[i]? = some b) (hs : A[i]? = some s) (hg : w.grownBy w' (some b)) (hm : IM w' b (setKV s')) :
  WkRel n base bR gF gA gB gFr gW rv w0 bA bB vF F v T gC cc (A.set i s') B wt w' := by
 obtain ⟨h1, h2, h3, h4, h5, h6⟩ := h
 have hi := h1.ma i b s hb hs
 exact ⟨h1.putA hb hs hg hm, h2, own_grown h3 hg (fun g hgg e => hi.own_ne h3 (hgg.trans e.symm)), h4.grown hg (fun e => by injection e with e; exact hi.blk_ne h4 e), h5, below_grown h6 hg h1.base_lt (fun g hgg => by injection hgg with hgg; rw [← hgg]; exact h1.lm b (List.mem_append_left _ (List.mem_of_getElem? hb)))⟩
theorem WkRel.putB (h : WkRel n base bR gF gA gB gFr gW rv w0 bA bB vF F v T gC cc A B wt w) {i b : Nat} {s s' : List Int} (hb : bB[i]? = some b) (hs : B[i]? = some s) (hg : w.grownBy w' (some b)) (hm : IM w' b (setKV s')) :
  WkRel n base bR gF gA gB gFr gW rv w0 bA bB vF F v T gC cc A (B.set i s') wt w' := by
 obtain ⟨h1, h2, h3, h4, h5, h6⟩ := h
 have hi := h1.mb i b s hb hs
 exact ⟨h1.putB hb hs hg hm, h2, own_grown h3 hg (fun g hgg e => hi.own_ne h3 (hgg.trans e.symm)), h4.grown hg (fun e => by injection e with e; exact hi.blk_ne h4 e), h5, below_grown h6 hg h1.base_lt (fun g hgg => by injection hgg with hgg; rw [← hgg]; exact h1.lm b (List.mem_append_right _ (List.mem_of_getElem? hb)))⟩
end
theorem MainRel.pop {r : RowD} {n base bR gF gA gB gFr gW gT t cT i : Nat} {rv cc : Array Value} {w0 w : World} {bA bB : List Nat} {vF : List Value} {F A B : Sets} {T : List Int} {x : Int} {wt : List Bool} {X : List Int}
  (h : MainRel r n base bR gF gA gB gFr gW rv w0 bA bB vF F (.slice (some ⟨gT, 0, none⟩) (t + 1) cT) (T ++ [x]) A B wt X w) (ht : T.length = t) :
  WkRel n base bR gF gA gB gFr gW rv w0 bA bB vF F (.slice (some ⟨gT, 0, none⟩) t cT) T w.heap.size cc A B (wt.set i false) ((w.setCell ⟨gW, i, none⟩ (.bool false)).alloc (.cells cc 48)) := by
 obtain ⟨h1, h2, h3, _, h5⟩ := h
 have hl : (T ++ [x]).length = t + 1 := by simp [ht]
 rw [hl] at h3
 have ho := own_take (k := t) h3 (by omega) (by simp)
 have e : (i64s (T ++ [x])).take (t * 1) = i64s T := by
  rw [Nat.mul_one, ← ht]
  unfold i64s
  rw [List.map_append, List.take_left' (by simp)]
 rw [e] at ho
 have m1 := h1.wait i false
 have hz : (w.setCell ⟨gW, i, none⟩ (.bool false)).heap.size = w.heap.size := by simp
 have q : (Value.slice (some ⟨gT, 0, none⟩) t cT).ownBlock ≠ some gW := own_ne ho h1.w (by decide)
 refine ⟨m1.grown ((Below.refl _ _).alloc (Nat.le_refl _) _), ⟨h2.1, fun a ha g hg => h2.2 a ha g hg⟩, ?_, Blk.newAt _ _ _ hz, h1.base_lt, (h5.setCell (p := ⟨gW, i, none⟩) h1.lW _).alloc (by rw [hz]; exact h1.base_lt) _⟩
 rw [ht]
 exact own_alloc (own_other ho q) _
theorem todo_len {r : RowD} {A B : Sets} {T X : List Int} {wt : List Bool} (h : LkInv r A B T wt X) : T.length ≤ r.code.length :=
 nodup_range_len h.tn (fun x hx => by obtain ⟨i, e, hi⟩ := h.tr x hx; omega)
theorem it_ne_im {w : World} {b b' r : Nat} {m m' L : KV} (h : IT w b r m L) (h' : IM w b' m') : b' ≠ r := by
 obtain ⟨es, clock, seen, h1, h2, h3, h4, h5, _⟩ := h
 obtain ⟨es', clock', h1', _⟩ := h'
 intro e
 subst e
 rw [h1'] at h5
 cases h5
end Go.Proofs.YtgmapikcpnffhaaGreat
namespace Go.Proofs.YtgmapikcpnffhaaGreat
open Go.RowKit Go.Bk Go.Bk.Liv
set_option linter.unusedVariables false
set_option linter.unusedSimpArgs false

theorem it_blk_ne {w : World} {b r g : Nat} {m L : KV} {t : TypeId} {cs : Array Value} (h : IT w b r m L) (k : Blk w g t cs) : r ≠ g := by
 obtain ⟨es, clock, seen, h1, h2, h3, h4, h5, _⟩ := h
 intro e
 subst e
 have := h5.symm.trans k
 injection this with this
 cases this
theorem it_own_ne {w : World} {b r base n size : Nat} {m L : KV} {t : TypeId} {v : Value} {xs : List Value} (h : IT w b r m L) (k : w.ownsRow base t size v n xs) : v.ownBlock ≠ some r := by
 rcases k.2 with ⟨h1, _⟩ | ⟨g, cap, cur, h1, h2, h3, _⟩
 ·subst h1; simp [Value.ownBlock]
 ·subst h1
  intro e
  injection e with e
  exact it_blk_ne h (show Blk w g t cur from h3) e.symm
section
variable {n base bR gF gA gB gFr gW gC : Nat} {rv cc : Array Value} {w0 w w' : World} {bA bB : List Nat} {vF : List Value} {F A B : Sets} {v : Value} {T : List Int} {wt : List Bool}
/-- only the range's own state was written -/
theorem WkRel.turn (h : WkRel n base bR gF gA gB gFr gW rv w0 bA bB vF F v T gC cc A B wt w) {b rI : Nat} {m L : KV} (hI : IT w b rI m L) (hg : w.grownBy w' (some rI)) (hb : base ≤ rI) : WkRel n base bR gF gA gB gFr gW rv w0 bA bB vF F v T gC cc A B wt w' := by
 obtain ⟨h1, h2, h3, h4, h5, h6⟩ := h
 refine ⟨h1.keep hg (fun g t cs hk _ _ e => by injection e with e; exact it_blk_ne hI hk e) (fun b' m' hm e => by injection e with e; exact it_ne_im hI hm e.symm) (fun u hu g hgu e => ?_), h2, own_grown h3 hg (fun g hgg e => it_own_ne hI h3 (hgg.trans e.symm)), h4.grown hg (fun e => by injection e with e; exact it_blk_ne hI h4 e), h5, below_grown h6 hg h1.base_lt (fun g e => by injection e with e; omega)⟩
 obtain ⟨i, hi⟩ := List.mem_iff_getElem?.1 hu
 have hl : i < F.length := by rw [← h1.rf.1]; exact (List.getElem?_eq_some_iff.1 hi).1
 exact it_own_ne hI (h1.rf.2 i u _ hi (List.getElem?_eq_getElem hl)) (hgu.trans e.symm)
/-- only new blocks were made -/
theorem WkRel.new (h : WkRel n base bR gF gA gB gFr gW rv w0 bA bB vF F v T gC cc A B wt w) (hg : w.grownBy w' none) : WkRel n base bR gF gA gB gFr gW rv w0 bA bB vF F v T gC cc A B wt w' := by
 obtain ⟨h1, h2, h3, h4, h5, h6⟩ := h
 exact ⟨h1.keep hg (fun _ _ _ _ _ _ => by simp) (fun _ _ _ => by simp) (fun _ _ _ _ => by simp), h2, own_grown h3 hg (fun g hgg e => by cases e), h4.grown hg (by simp), h5, below_grown h6 hg h1.base_lt (fun g e => by cases e)⟩
end

/-- the instructions behind the one at work, gone through so far: D -/
def WlRel (r : RowD) (n base bR gF gA gB gFr gW : Nat) (rv : Array Value) (w0 : World) (bA bB : List Nat) (vF : List Value) (F : Sets) (v : Value) (T : List Int) (gC : Nat) (cc : Array Value) (wt : List Bool) (A0 B0 : Sets) (i : Nat) (c : CodeD) (s0 : List Int) (vn : Value) (ln D : List Int) (b : Bool) (w : World) : Prop :=
 ∃ A B s t, WkRel n base bR gF gA gB gFr gW rv w0 bA bB vF F v T gC cc A B wt w ∧ Work r A0 B0 A B i c s0 D s t b ∧ w.ownsRow base 3 1 vn ln.length (i64s ln)
/-- one of them, place by place: L are those to come -/
def WiRel (r : RowD) (n base bR gF gA gB gFr gW : Nat) (rv : Array Value) (w0 : World) (bA bB : List Nat) (vF : List Value) (F : Sets) (v : Value) (T : List Int) (gC : Nat) (cc : Array Value) (wt : List Bool) (A0 B0 : Sets) (i : Nat) (c : CodeD) (s0 : List Int) (vn : Value) (ln D : List Int) (k : Nat) (u : List Int) (bk rI : Nat) (A B : Sets) (s t : List Int) (L : KV) (b : Bool) (w : World) : Prop :=
 WkRel n base bR gF gA gB gFr gW rv w0 bA bB vF F v T gC cc A B wt w ∧ Work r A0 B0 A B i c s0 D s t b ∧ w.ownsRow base 3 1 vn ln.length (i64s ln) ∧
  A[k]? = some u ∧ IT w bk rI (setKV u) L ∧ (∀ x ∈ u, x ∉ L.map (·.1) → x ∈ t ∧ (x ∉ c.outs → x ∈ s)) ∧ (∀ x ∈ L.map (·.1), x ∈ u) ∧ base ≤ rI
section
variable {r : RowD} {n base bR gF gA gB gFr gW gC i : Nat} {rv cc : Array Value} {w0 w w' : World} {bA bB : List Nat} {vF : List Value} {F : Sets} {v : Value} {T : List Int} {wt : List Bool} {A0 B0 A B : Sets} {c : CodeD} {s0 s t ln D u : List Int} {vn : Value} {b : Bool} {k bk rI : Nat} {L : KV}
theorem WiRel.start (h1 : WkRel n base bR gF gA gB gFr gW rv w0 bA bB vF F v T gC cc A B wt w) (h2 : Work r A0 B0 A B i c s0 D s t b) (h3 : w.ownsRow base 3 1 vn ln.length (i64s ln)) (hu : A[k]? = some u) (hg : w.grownBy w' none) (hI : IT w' bk w.heap.size (setKV u) (setKV u)) :
  WiRel r n base bR gF gA gB gFr gW rv w0 bA bB vF F v T gC cc wt A0 B0 i c s0 vn ln D k u bk w.heap.size A B s t (setKV u) b w' := by
 have e : (setKV u).map (·.1) = u := by simp [setKV, Function.comp_def]
 refine ⟨h1.new hg, h2, own_grown h3 hg (fun g hgg e => by cases e), hu, hI, fun x hx hn => absurd (by rw [e]; exact hx) hn, fun x hx => by rw [e] at hx; exact hx, h1.1.base_lt⟩
/-- all its places were gone through -/
theorem WiRel.done (h : WiRel r n base bR gF gA gB gFr gW rv w0 bA bB vF F v T gC cc wt A0 B0 i c s0 vn ln D k u bk rI A B s t [] b w) :
  WlRel r n base bR gF gA gB gFr gW rv w0 bA bB vF F v T gC cc wt A0 B0 i c s0 vn ln (D ++ [(k : Int)]) b w := by
 obtain ⟨h1, h2, h3, h4, h5, h6, h7, h8⟩ := h
 exact ⟨A, B, s, t, h1, h2.next h4 (fun x hx => h6 x hx (by simp)), h3⟩
/-- the next place -/
theorem WiRel.turn {L1 L2 : KV} {p : Int} {x : Value} (h : WiRel r n base bR gF gA gB gFr gW rv w0 bA bB vF F v T gC cc wt A0 B0 i c s0 vn ln D k u bk rI A B s t (L1 ++ (p, x) :: L2) b w) (hI : IT w' bk rI (setKV u) (L1 ++ L2)) (hg : w.grownBy w' (some rI)) :
  WkRel n base bR gF gA gB gFr gW rv w0 bA bB vF F v T gC cc A B wt w' ∧ w'.ownsRow base 3 1 vn ln.length (i64s ln) ∧ p ∈ u := by
 obtain ⟨h1, h2, h3, h4, h5, h6, h7, h8⟩ := h
 exact ⟨h1.turn h5 hg h8, own_grown h3 hg (fun g hgg e => it_own_ne h5 h3 (hgg.trans e.symm)), h7 p (by simp)⟩
theorem kv_out {L1 L2 : KV} {p y : Int} {x : Value} (h : y ∉ (L1 ++ L2).map (·.1)) (hp : y ≠ p) : y ∉ (L1 ++ (p, x) :: L2).map (·.1) := by
 simp only [List.map_append, List.map_cons, List.mem_append, List.mem_cons, not_or] at h ⊢
 exact ⟨h.1, hp, h.2⟩
theorem kv_in {L1 L2 : KV} {p y : Int} {x : Value} (h : y ∈ (L1 ++ L2).map (·.1)) : y ∈ (L1 ++ (p, x) :: L2).map (·.1) := by
 simp only [List.map_append, List.map_cons, List.mem_append, List.mem_cons] at h ⊢
 rcases h with h | h
 ·exact .inl h
 ·exact .inr (.inr h)
/-- it is live behind; and it is an Out, or known ahead already -/
theorem WiRel.skip {L1 L2 : KV} {p : Int} {x : Value} {w1 w2 : World} {bj : Nat} (h : WiRel r n base bR gF gA gB gFr gW rv w0 bA bB vF F v T gC cc wt A0 B0 i c s0 vn ln D k u bk rI A B s t (L1 ++ (p, x) :: L2) b w) (hI : IT w1 bk rI (setKV u) (L1 ++ L2)) (hg : w.grownBy w1 (some rI))
  (hk : bA[k]? = some bk) (hbj : bB[i]? = some bj) (hm : IM w2 bj (setKV (ins t p))) (hg2 : w1.grownBy w2 (some bj)) (hc : r.code[i]? = some c) (hkn : (k : Int) ∈ nextOf c i) (hs : p ∉ c.outs → p ∈ s) :
  WiRel r n base bR gF gA gB gFr gW rv w0 bA bB vF F v T gC cc wt A0 B0 i c s0 vn ln D k u bk rI A (B.set i (ins t p)) s (ins t p) (L1 ++ L2) b w2 := by
 obtain ⟨q1, q2, q3⟩ := h.turn hI hg
 obtain ⟨h1, h2, h3, h4, h5, h6, h7, h8⟩ := h
 have hlb : LiveB r i p := ⟨c, hc, k, hkn, h2.snd.sA k u p h4 q3⟩
 have hmj := q1.1.mb i bj t hbj h2.b
 have hnd := List.nodup_append.1 q1.1.nd
 have hne : bj ≠ bk := fun e => hnd.2.2 bk (List.mem_of_getElem? hk) bj (List.mem_of_getElem? hbj) e.symm
 refine ⟨q1.putB hbj h2.b hg2 hm, h2.behind hlb, own_grown q2 hg2 (fun g hgg e => hmj.own_ne q2 (hgg.trans e.symm)), h4, hI.grown hg2 (fun e => by injection e with e; exact hne e) (fun e => by injection e with e; exact it_ne_im hI hmj e), fun y hy hn => ?_, fun y hy => h7 y (kv_in hy), h8⟩
 by_cases hp : y = p
 ·subst hp
  exact ⟨mem_ins.2 (.inr rfl), hs⟩
 ·obtain ⟨a1, a2⟩ := h6 y hy (kv_out hn hp)
  exact ⟨mem_ins.2 (.inl a1), a2⟩
/-- and it is put in ahead -/
theorem WiRel.put {L1 L2 : KV} {p : Int} {x : Value} {w1 w2 w3 : World} {bi bj : Nat} (h : WiRel r n base bR gF gA gB gFr gW rv w0 bA bB vF F v T gC cc wt A0 B0 i c s0 vn ln D k u bk rI A B s t (L1 ++ (p, x) :: L2) b w) (hI : IT w1 bk rI (setKV u) (L1 ++ L2)) (hg : w.grownBy w1 (some rI))
  (hk : bA[k]? = some bk) (hbj : bB[i]? = some bj) (hm : IM w2 bj (setKV (ins t p))) (hg2 : w1.grownBy w2 (some bj)) (hc : r.code[i]? = some c) (hkn : (k : Int) ∈ nextOf c i) (ho : p ∉ c.outs) (hs : p ∉ s) (hbi : bA[i]? = some bi) (hm3 : IM w3 bi (setKV (s ++ [p]))) (hg3 : w2.grownBy w3 (some bi)) :
  WiRel r n base bR gF gA gB gFr gW rv w0 bA bB vF F v T gC cc wt A0 B0 i c s0 vn ln D k u bk rI (A.set i (s ++ [p])) (B.set i (ins t p)) (s ++ [p]) (ins t p) (L1 ++ L2) true w3 := by
 obtain ⟨q1, q2, q3⟩ := h.turn hI hg
 obtain ⟨h1, h2, h3, h4, h5, h6, h7, h8⟩ := h
 have hlb : LiveB r i p := ⟨c, hc, k, hkn, h2.snd.sA k u p h4 q3⟩
 have hmj := q1.1.mb i bj t hbj h2.b
 have hnd := List.nodup_append.1 q1.1.nd
 have hne : bj ≠ bk := fun e => hnd.2.2 bk (List.mem_of_getElem? hk) bj (List.mem_of_getElem? hbj) e.symm
 have hki : k ≠ i := by
  intro e
  subst e
  rw [h2.a] at h4
  injection h4 with h4
  exact hs (h4 ▸ q3)
 have hne2 : bi ≠ bk := fun e => hki (nodup_at hnd.1 (hk.trans (congrArg some e.symm)) hbi)
 have z1 := q1.putB hbj h2.b hg2 hm
 have z2 := h2.behind hlb
 have z3 := own_grown q2 hg2 (fun g hgg e => hmj.own_ne q2 (hgg.trans e.symm))
 have z4 := hI.grown hg2 (fun e => by injection e with e; exact hne e) (fun e => by injection e with e; exact it_ne_im hI hmj e)
 have hmi := z1.1.ma i bi s hbi z2.a
 refine ⟨z1.putA hbi z2.a hg3 hm3, z2.fresh (hlb.ahead hc ho) hs (mem_ins.2 (.inr rfl)), own_grown z3 hg3 (fun g hgg e => hmi.own_ne z3 (hgg.trans e.symm)), by rw [List.getElem?_set_ne (fun e => hki e.symm)]; exact h4, z4.grown hg3 (fun e => by injection e with e; exact hne2 e) (fun e => by injection e with e; exact it_ne_im z4 hmi e), fun y hy hn => ?_, fun y hy => h7 y (kv_in hy), h8⟩
 by_cases hp : y = p
 ·subst hp
  exact ⟨mem_ins.2 (.inr rfl), fun _ => by simp⟩
 ·obtain ⟨a1, a2⟩ := h6 y hy (kv_out hn hp)
  exact ⟨mem_ins.2 (.inl a1), fun ho => List.mem_append_left _ (a2 ho)⟩
end
/-- back to the search: whoever comes ahead and is to be looked at again; X are those left -/
theorem WlRel.main {r : RowD} {n base bR gF gA gB gFr gW gC i : Nat} {rv cc : Array Value} {w0 w : World} {bA bB : List Nat} {vF : List Value} {F : Sets} {v : Value} {T l : List Int} {wt : List Bool} {A0 B0 : Sets} {c : CodeD} {s0 ln D : List Int} {vn : Value} {b : Bool} {p : Nat}
  (h : WlRel r n base bR gF gA gB gFr gW rv w0 bA bB vF F v T gC cc (wt.set i false) A0 B0 i c s0 vn ln D b w) (hi : LkInv r A0 B0 (T ++ [(i : Int)]) wt []) (hc : r.code[i]? = some c) (hD : ∀ k : Nat, (k : Int) ∈ nextOf c i → (k : Int) ∈ D) (hF : FromOk r F) (hl : F[i]? = some l)
  (hsm : ∀ A B, Snd r A B → ∀ s ∈ A, s.length ≤ p) (hn : r.code.length = n) :
  ∃ A B, MainRel r n base bR gF gA gB gFr gW rv w0 bA bB vF F v T A B (wt.set i false) (if b then l else []) w ∧ (b = true → sumL A0 < sumL A) ∧ (b = false → sumL A = sumL A0) ∧ sumL A ≤ n * p := by
 obtain ⟨A, B, s, t, h1, h2, h3⟩ := h
 have e := sum_set (s' := s) h2.i0
 rw [← h2.ea] at e
 refine ⟨A, B, ⟨h1.1, h1.2.1, h1.2.2.1, hi.done hc h2 hD hF hl, h1.2.2.2.2.2⟩, fun hb => ?_, fun hb => ?_, ?_⟩
 ·have := h2.ln hb; omega
 ·have := h2.ls hb; rw [this] at e; omega
 ·have := sum_le (hsm A B h2.snd)
  rw [h2.snd.lA, hn] at this
  exact this
/-- one that waits already is not put in again -/
theorem MainRel.waits {r : RowD} {n base bR gF gA gB gFr gW : Nat} {rv : Array Value} {w0 w : World} {bA bB : List Nat} {vF : List Value} {F : Sets} {v : Value} {T X : List Int} {A B : Sets} {wt : List Bool} {j : Nat} (h : MainRel r n base bR gF gA gB gFr gW rv w0 bA bB vF F v T A B wt ((j : Int) :: X) w) (hj : wt[j]? = some true) :
  MainRel r n base bR gF gA gB gFr gW rv w0 bA bB vF F v T A B wt X w :=
 ⟨h.1, h.2.1, h.2.2.1, h.2.2.2.1.wait hj, h.2.2.2.2⟩
/-- one is put in -/
theorem MainRel.push {r : RowD} {n base bR gF gA gB gFr gW : Nat} {rv : Array Value} {w0 w w' : World} {bA bB : List Nat} {vF : List Value} {F : Sets} {v v' : Value} {T X : List Int} {A B : Sets} {wt : List Bool} {j : Nat} (h : MainRel r n base bR gF gA gB gFr gW rv w0 bA bB vF F v T A B wt ((j : Int) :: X) w) (hj : wt[j]? = some false)
  (ho : w'.ownsRow base 3 1 v' (T.length + 1) (i64s (T ++ [(j : Int)]))) (hg : w.grownBy w' v.ownBlock) (hv : v'.ownBlock = v.ownBlock ∨ v'.ownBlock = some w.heap.size) :
  MainRel r n base bR gF gA gB gFr gW rv w0 bA bB vF F v' (T ++ [(j : Int)]) A B (wt.set j true) X (w'.setCell ⟨gW, j, none⟩ (.bool true)) := by
 obtain ⟨h1, h2, h3, h4, h5⟩ := h
 have m := h1.keep hg (fun g t cs hb q1 q2 => own_ne h3 hb (fun e => q1 e.symm)) (fun b m hb => hb.own_ne h3) (fun u hu g hgu => h2.2 u hu g hgu)
 have hb := below_grown h5 hg h1.base_lt (fun g hgg => (h3.lt g hgg).1)
 refine ⟨m.wait j true, ⟨h2.1, fun a ha g hga => ?_⟩, ?_, h4.push hj, hb.setCell (p := ⟨gW, j, none⟩) h1.lW _⟩
 ·rcases hv with hv | hv
  ·rw [hv]; exact h2.2 a ha g hga
  ·rw [hv]
   intro e
   injection e with e
   obtain ⟨q, hq⟩ := List.mem_iff_getElem?.1 ha
   have hl : q < F.length := by rw [← h1.rf.1]; exact (List.getElem?_eq_some_iff.1 hq).1
   have := ((h1.rf.2 q a _ hq (List.getElem?_eq_getElem hl)).lt g hga).2
   omega
 ·have e5 : (T ++ [(j : Int)]).length = T.length + 1 := by simp
  rw [e5]
  exact own_other ho (own_ne ho m.w (by decide))
theorem zero_bool (w : World) : (zeroValue 4).run Tryz.prog w = .ok (.bool false) w := by kernel_rfl
theorem muL_more {n p : Nat} {A A' : Sets} {T T' : List Int} (h1 : sumL A < sumL A') (h2 : sumL A' ≤ n * p) (h3 : T'.length ≤ n) : muL n p A' T' < muL n p A T := by
 unfold muL
 generalize n * p = q at *
 have h4 : (q - sumL A' + 1) * (n + 1) ≤ (q - sumL A) * (n + 1) := Nat.mul_le_mul_right _ (by omega)
 rw [Nat.add_mul] at h4
 omega
theorem muL_less {n p : Nat} {A A' : Sets} {T : List Int} {x : Int} (h1 : sumL A' = sumL A) : muL n p A' T < muL n p A (T ++ [x]) := by
 unfold muL
 rw [h1]
 simp
theorem own_max {w : World} {p n : Nat} {e : TypeId} {v : Value} {xs : List Value} (h : w.ownsRow p e 1 v n xs) : n ≤ 9223372036854775807 := by
 rcases h.2 with ⟨_, h⟩ | ⟨g', cap', cur, rfl, h1, h2, h3, h4, r⟩
 ·omega
 ·unfold maxLen at h4
  omega
theorem MainRel.none {r : RowD} {n base bR gF gA gB gFr gW : Nat} {rv : Array Value} {w0 w : World} {bA bB : List Nat} {vF : List Value} {F : Sets} {v : Value} {T l : List Int} {A B : Sets} {wt : List Bool} (h : MainRel r n base bR gF gA gB gFr gW rv w0 bA bB vF F v T A B wt (if false = true then l else []) w) :
  MainRel r n base bR gF gA gB gFr gW rv w0 bA bB vF F v T A B wt [] w := h
theorem MainRel.all {r : RowD} {n base bR gF gA gB gFr gW : Nat} {rv : Array Value} {w0 w : World} {bA bB : List Nat} {vF : List Value} {F : Sets} {v : Value} {T l : List Int} {A B : Sets} {wt : List Bool} (h : MainRel r n base bR gF gA gB gFr gW rv w0 bA bB vF F v T A B wt (if true = true then l else []) w) :
  MainRel r n base bR gF gA gB gFr gW rv w0 bA bB vF F v T A B wt l w := h
theorem MainRel.drew {r : RowD} {n base bR gF gA gB gFr gW : Nat} {rv : Array Value} {w0 w : World} {bA bB : List Nat} {vF : List Value} {F : Sets} {v : Value} {T l : List Int} {A B : Sets} {wt : List Bool} (h : MainRel r n base bR gF gA gB gFr gW rv w0 bA bB vF F v T A B wt l w) :
  MainRel r n base bR gF gA gB gFr gW rv w0 bA bB vF F v T A B wt l w.drew := ⟨h.1.drew, h.2.1, own_drew h.2.2.1, h.2.2.2.1, h.2.2.2.2.drew⟩
theorem MainRel.alloc {r : RowD} {n base bR gF gA gB gFr gW : Nat} {rv : Array Value} {w0 w : World} {bA bB : List Nat} {vF : List Value} {F : Sets} {v : Value} {T l : List Int} {A B : Sets} {wt : List Bool} (h : MainRel r n base bR gF gA gB gFr gW rv w0 bA bB vF F v T A B wt l w) (o : Obj) :
  MainRel r n base bR gF gA gB gFr gW rv w0 bA bB vF F v T A B wt l (w.alloc o) := ⟨h.1.grown ((Below.refl _ _).alloc (Nat.le_refl _) _), h.2.1, own_alloc h.2.2.1 _, h.2.2.2.1, h.2.2.2.2.alloc h.1.base_lt _⟩
end Go.Proofs.YtgmapikcpnffhaaGreat
