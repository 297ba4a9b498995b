/-
 Going round without a tick: the search and its visit.
 Conditions: none.
-/
import Derived.Test.YtgmapikcpnffhaaGreatLivPlain
import Derived.Test.YtgmapikcpnffhaaGreatLivNext
import Derived.Test.YtgmapikcpnffhaaGreatLGen
namespace Go.Bk.Liv
open Go Go.Bk

/-- what comes behind an instruction, if it is no tick -/
def edges (r : RowD) (i : Nat) : List Int := match r.code[i]? with
 | some c => if c.op = 258 then [] else nextOf c i
 | none => []
theorem edges_of {r : RowD} {i : Nat} {c : CodeD} (h : r.code[i]? = some c) (hc : c.op ≠ 258) : edges r i = nextOf c i := by simp [edges, h, hc]
theorem edges_tick {r : RowD} {i : Nat} {c : CodeD} (h : r.code[i]? = some c) (hc : c.op = 258) : edges r i = [] := by simp [edges, h, hc]
/-- an order in which all that comes behind stands ahead -/
def DoneL (r : RowD) (D : List Nat) : Prop := ∀ p i, D[p]? = some i → ∀ k : Nat, (k : Int) ∈ edges r i → k ∈ D.take p
theorem DoneL.nil (r : RowD) : DoneL r [] := fun p i h => by simp at h
theorem DoneL.push {r : RowD} {D : List Nat} {i : Nat} (h : DoneL r D) (hk : ∀ k : Nat, (k : Int) ∈ edges r i → k ∈ D) : DoneL r (D ++ [i]) := by
 intro p j hj k hkk
 by_cases hp : p < D.length
 ·rw [List.getElem?_append_left hp] at hj
  rw [List.take_append_of_le_length (by omega)]
  exact h p j hj k hkk
 ·rw [List.getElem?_append_right (by omega)] at hj
  have hp0 : p - D.length = 0 := by
   have := (List.getElem?_eq_some_iff.1 hj).1
   simp at this
   omega
  rw [hp0] at hj
  simp at hj
  subst hj
  have hp' : p = D.length := by omega
  rw [hp', List.take_append_of_le_length (Nat.le_refl _), List.take_of_length_le (Nat.le_refl _)]
  exact hk k hkk
theorem DoneL.mem {r : RowD} {D : List Nat} (h : DoneL r D) {i k : Nat} (hi : i ∈ D) (hk : (k : Int) ∈ edges r i) : k ∈ D := by
 obtain ⟨p, hp⟩ := List.mem_iff_getElem?.1 hi
 exact List.mem_of_mem_take (h p i hp k hk)
theorem mem_take_idx {D : List Nat} {k p : Nat} (h : k ∈ D.take p) : D.idxOf k < p := by
 induction D generalizing p with
 | nil => simp at h
 | cons a D ih =>
  cases p with
  | zero => simp at h
  | succ p =>
   rw [List.take_succ_cons] at h
   rw [List.idxOf_cons]
   by_cases e : a = k
   ·subst e; simp
   ·have hk : k ∈ D.take p := by
     rcases List.mem_cons.1 h with h | h
     ·exact absurd h.symm e
     ·exact h
    have := ih hk
    have e' : (a == k) = false := by simp [e]
    rw [e']
    simp
    exact this
theorem DoneL.ranked {r : RowD} {D : List Nat} (h : DoneL r D) (hall : ∀ i, i < r.code.length → i ∈ D) : Ranked r := by
 refine ⟨fun i => D.idxOf i, fun i c k hi hc hk => ?_⟩
 have hin := hall i (List.getElem?_eq_some_iff.1 hi).1
 have hlt : D.idxOf i < D.length := List.idxOf_lt_length_iff.2 hin
 have hg : D[D.idxOf i]? = some i := by rw [List.getElem?_eq_getElem hlt]; simp
 exact mem_take_idx (h _ i hg k (by rw [edges_of hi hc]; exact hk))
/-- where some instructions always lead on among themselves, none is ranked -/
theorem not_ranked {r : RowD} {S : Nat → Prop} (h0 : ∃ i, S i) (h : ∀ i, S i → ∃ k : Nat, (k : Int) ∈ edges r i ∧ S k) : ¬ Ranked r := by
 rintro ⟨rk, hr⟩
 have key : ∀ m i, rk i = m → S i → False := by
  intro m
  induction m using Nat.strongRecOn with
  | _ m ih =>
   intro i hm hs
   obtain ⟨k, hk, hsk⟩ := h i hs
   unfold edges at hk
   split at hk
   ·rename_i c hc
    split at hk
    ·simp at hk
    ·rename_i hop
     have := hr i c k hc hop hk
     exact ih (rk k) (by omega) k rfl hsk
   ·simp at hk
 obtain ⟨i, hi⟩ := h0
 exact key _ i rfl hi

/-- open instructions, each with what is left of what comes behind it -/
abbrev Stk := List (Nat × List Int)
def ints' (e : Nat × List Int) : List Int := (e.1 : Int) :: e.2
structure RInv (r : RowD) (st : List Int) (stk : Stk) (D : List Nat) : Prop where
 len : st.length = r.code.length
 done : DoneL r D
 two : ∀ i : Nat, st[i]? = some 2 ↔ i ∈ D
 one : ∀ i : Nat, st[i]? = some 1 ↔ i ∈ stk.map (·.1)
 vals : ∀ (i : Nat) v, st[i]? = some v → v = 0 ∨ v = 1 ∨ v = 2
 nod : (stk.map (·.1)).Nodup
 ent : ∀ (j : Nat) e, stk[j]? = some e → ∃ proc, edges r e.1 = e.2 ++ proc ∧ ∀ x ∈ proc, (∃ k : Nat, x = k ∧ k ∈ D) ∨ (∃ e', stk[j + 1]? = some e' ∧ x = (e'.1 : Int))
 lead : ∀ (j : Nat) e e', stk[j]? = some e → stk[j + 1]? = some e' → (e'.1 : Int) ∈ edges r e.1

theorem RInv.lt {r : RowD} {st : List Int} {stk : Stk} {D : List Nat} (h : RInv r st stk D) {e : Nat × List Int} (he : e ∈ stk) : e.1 < r.code.length := by
 have := (h.one e.1).2 (List.mem_map.2 ⟨e, he, rfl⟩)
 rw [← h.len]
 exact (List.getElem?_eq_some_iff.1 this).1
theorem RInv.small {r : RowD} {st : List Int} {stk : Stk} {D : List Nat} (h : RInv r st stk D) : stk.length ≤ r.code.length := by
 have h1 : (stk.map (·.1)).length ≤ (List.range r.code.length).length :=
  List.Nodup.length_le_of_subset h.nod fun x hx => by
   obtain ⟨e, he, rfl⟩ := List.mem_map.1 hx
   exact List.mem_range.2 (h.lt he)
 simpa using h1
theorem RInv.start {r : RowD} : RInv r (List.replicate r.code.length 0) [] [] where
 len := by simp
 done := DoneL.nil r
 two i := ⟨fun h => by
  obtain ⟨hl, h⟩ := List.getElem?_eq_some_iff.1 h
  simp at h, fun h => by simp at h⟩
 one i := ⟨fun h => by
  obtain ⟨hl, h⟩ := List.getElem?_eq_some_iff.1 h
  simp at h, fun h => by simp at h⟩
 vals i v h := by
  obtain ⟨hl, h⟩ := List.getElem?_eq_some_iff.1 h
  simp at h
  omega
 nod := by simp
 ent j e h := by simp at h
 lead j e e' h := by simp at h
/-- a fresh one is opened -/
theorem RInv.open {r : RowD} {st : List Int} {S : Stk} {D : List Nat} {k : Nat} (h : RInv r st S D) (hk : st[k]? = some 0) (hl : ∀ e, S[S.length - 1]? = some e → (k : Int) ∈ edges r e.1)
  : RInv r (st.set k 1) (S ++ [(k, edges r k)]) D := by
 have hkl := (List.getElem?_eq_some_iff.1 hk).1
 have hn : k ∉ S.map (·.1) := fun hin => by have := (h.one k).2 hin; rw [hk] at this; injection this with this; omega
 refine { len := by simp [h.len], done := h.done, two := fun i => ?_, one := fun i => ?_, vals := fun i v hv => ?_, nod := ?_, ent := fun j e he => ?_, lead := fun j e e' he he' => ?_ }
 ·by_cases e : k = i
  ·subst e
   rw [List.getElem?_set_self hkl]
   constructor
   ·intro e; injection e with e; omega
   ·intro hd; have := (h.two k).2 hd; rw [hk] at this; injection this with this; omega
  ·rw [List.getElem?_set_ne e]; exact h.two i
 ·rw [List.map_append, List.mem_append]
  by_cases e : k = i
  ·subst e
   rw [List.getElem?_set_self hkl]
   simp
  ·rw [List.getElem?_set_ne e, h.one i]
   constructor
   ·exact .inl
   ·rintro (h | h)
    ·exact h
    ·simp at h; exact absurd h.symm e
 ·by_cases e : k = i
  ·subst e
   rw [List.getElem?_set_self hkl] at hv
   injection hv with hv
   omega
  ·rw [List.getElem?_set_ne e] at hv
   exact h.vals i v hv
 ·rw [List.map_append, List.nodup_append]
  refine ⟨h.nod, by simp, fun a ha b hb e => ?_⟩
  simp at hb
  subst hb
  subst e
  exact hn ha
 ·by_cases hj : j < S.length
  ·rw [List.getElem?_append_left hj] at he
   obtain ⟨proc, h1, h2⟩ := h.ent j e he
   refine ⟨proc, h1, fun x hx => ?_⟩
   rcases h2 x hx with h3 | ⟨e', h3, h4⟩
   ·exact .inl h3
   ·exact .inr ⟨e', by rw [List.getElem?_append_left (List.getElem?_eq_some_iff.1 h3).1]; exact h3, h4⟩
  ·rw [List.getElem?_append_right (by omega)] at he
   have h0 : j - S.length = 0 := by
    have := (List.getElem?_eq_some_iff.1 he).1
    simp at this
    omega
   rw [h0] at he
   simp at he
   subst he
   exact ⟨[], by simp, by simp⟩
 ·by_cases hj : j + 1 < S.length
  ·rw [List.getElem?_append_left (by omega)] at he
   rw [List.getElem?_append_left hj] at he'
   exact h.lead j e e' he he'
  ·have hjj : j + 1 = S.length := by
    have := (List.getElem?_eq_some_iff.1 he').1
    simp at this
    omega
   rw [List.getElem?_append_left (by omega)] at he
   rw [List.getElem?_append_right (by omega), hjj, Nat.sub_self] at he'
   simp at he'
   subst he'
   exact hl e (by rw [← hjj]; simpa using he)
/-- what is left of the last one is shortened by one that is done, or opened next -/
theorem RInv.fresh {r : RowD} {st : List Int} {S : Stk} {D : List Nat} {t k : Nat} {rest : List Int} (h : RInv r st (S ++ [(t, rest ++ [(k : Int)])]) D) (hk : st[k]? = some 0)
  : RInv r (st.set k 1) (S ++ [(t, rest)] ++ [(k, edges r k)]) D := by
 have hm : (S ++ [(t, rest)]).map (·.1) = (S ++ [(t, rest ++ [(k : Int)])]).map (·.1) := by simp
 have hkt : (k : Int) ∈ edges r t := by
  have e1 : (S ++ [(t, rest ++ [(k : Int)])])[S.length]? = some (t, rest ++ [(k : Int)]) := by simp
  obtain ⟨proc, h1, h2⟩ := h.ent _ _ e1
  rw [h1]; simp
 have h' := h.open hk (fun e he => by
  have : (S ++ [(t, rest ++ [(k : Int)])]).length - 1 = S.length := by simp
  rw [this] at he
  simp at he
  subst he
  exact hkt)
 refine { len := h'.len, done := h'.done, two := h'.two, one := fun i => ?_, vals := h'.vals, nod := ?_, ent := fun j e he => ?_, lead := fun j e e' he he' => ?_ }
 ·rw [h'.one i]; simp
 ·have := h'.nod; simpa using this
 ·by_cases hj : j < S.length
  ·have e1 : (S ++ [(t, rest ++ [(k : Int)])] ++ [(k, edges r k)])[j]? = some e := by
    rw [List.append_assoc, List.getElem?_append_left hj]
    rw [List.append_assoc, List.getElem?_append_left hj] at he
    exact he
   obtain ⟨proc, h1, h2⟩ := h'.ent j e e1
   refine ⟨proc, h1, fun x hx => ?_⟩
   rcases h2 x hx with h3 | ⟨e', h3, h4⟩
   ·exact .inl h3
   ·right
    by_cases hj1 : j + 1 < S.length
    ·refine ⟨e', ?_, h4⟩
     rw [List.append_assoc, List.getElem?_append_left hj1] at h3 ⊢
     exact h3
    ·have hjj : j + 1 = S.length := by omega
     rw [List.append_assoc, List.getElem?_append_right (by omega), hjj, Nat.sub_self] at h3
     simp at h3
     subst h3
     refine ⟨(t, rest), ?_, h4⟩
     rw [List.append_assoc, List.getElem?_append_right (by omega), hjj, Nat.sub_self]
     simp
  ·by_cases hj2 : j = S.length
   ·subst hj2
    rw [List.append_assoc, List.getElem?_append_right (Nat.le_refl _), Nat.sub_self] at he
    simp at he
    subst he
    have e1 : (S ++ [(t, rest ++ [(k : Int)])])[S.length]? = some (t, rest ++ [(k : Int)]) := by simp
    obtain ⟨proc, h1, h2⟩ := h.ent _ _ e1
    refine ⟨(k : Int) :: proc, by rw [h1]; simp, fun x hx => ?_⟩
    rcases List.mem_cons.1 hx with hx | hx
    ·right
     refine ⟨(k, edges r k), ?_, hx⟩
     rw [List.append_assoc, List.getElem?_append_right (by omega)]
     simp
    ·rcases h2 x hx with h3 | ⟨e', h3, h4⟩
     ·exact .inl h3
     ·simp at h3
   ·have hj3 : j = S.length + 1 := by
     have := (List.getElem?_eq_some_iff.1 he).1
     simp at this
     omega
    subst hj3
    rw [List.append_assoc, List.getElem?_append_right (by omega)] at he
    simp at he
    subst he
    exact ⟨[], by simp, by simp⟩
 ·have m1 : (S ++ [(t, rest)] ++ [(k, edges r k)]).map (·.1) = (S ++ [(t, rest ++ [(k : Int)])] ++ [(k, edges r k)]).map (·.1) := by simp
  have q : ∀ (j : Nat) e, (S ++ [(t, rest)] ++ [(k, edges r k)])[j]? = some e → ∃ e2, (S ++ [(t, rest ++ [(k : Int)])] ++ [(k, edges r k)])[j]? = some e2 ∧ e2.1 = e.1 := by
   intro j e he
   have h1 : ((S ++ [(t, rest)] ++ [(k, edges r k)]).map (·.1))[j]? = some e.1 := by rw [List.getElem?_map, he]; rfl
   rw [m1, List.getElem?_map, Option.map_eq_some_iff] at h1
   exact h1
  obtain ⟨e2, a1, a2⟩ := q j e he
  obtain ⟨e3, a3, a4⟩ := q (j + 1) e' he'
  have := h'.lead j e2 e3 a1 a3
  rwa [a2, a4] at this
theorem RInv.skip {r : RowD} {st : List Int} {S : Stk} {D : List Nat} {t k : Nat} {rest : List Int} (h : RInv r st (S ++ [(t, rest ++ [(k : Int)])]) D) (hk : st[k]? = some 2)
  : RInv r st (S ++ [(t, rest)]) D := by
 refine { len := h.len, done := h.done, two := h.two, one := fun i => ?_, vals := h.vals, nod := ?_, ent := fun j e he => ?_, lead := fun j e e' he he' => ?_ }
 ·rw [h.one i]; simp
 ·have := h.nod; simpa using this
 ·by_cases hj : j < S.length
  ·have e1 : (S ++ [(t, rest ++ [(k : Int)])])[j]? = some e := by
    rw [List.getElem?_append_left hj] at he ⊢
    exact he
   obtain ⟨proc, h1, h2⟩ := h.ent j e e1
   refine ⟨proc, h1, fun x hx => ?_⟩
   rcases h2 x hx with h3 | ⟨e', h3, h4⟩
   ·exact .inl h3
   ·right
    by_cases hj1 : j + 1 < S.length
    ·refine ⟨e', ?_, h4⟩
     rw [List.getElem?_append_left hj1] at h3 ⊢
     exact h3
    ·have hjj : j + 1 = S.length := by omega
     rw [List.getElem?_append_right (by omega), hjj, Nat.sub_self] at h3
     simp at h3
     subst h3
     refine ⟨(t, rest), ?_, h4⟩
     rw [List.getElem?_append_right (by omega), hjj, Nat.sub_self]
     simp
  ·have hj2 : j = S.length := by
    have := (List.getElem?_eq_some_iff.1 he).1
    simp at this
    omega
   subst hj2
   rw [List.getElem?_append_right (Nat.le_refl _), Nat.sub_self] at he
   simp at he
   subst he
   have e1 : (S ++ [(t, rest ++ [(k : Int)])])[S.length]? = some (t, rest ++ [(k : Int)]) := by simp
   obtain ⟨proc, h1, h2⟩ := h.ent _ _ e1
   refine ⟨(k : Int) :: proc, by rw [h1]; simp, fun x hx => ?_⟩
   rcases List.mem_cons.1 hx with hx | hx
   ·exact .inl ⟨k, hx, (h.two k).1 hk⟩
   ·rcases h2 x hx with h3 | ⟨e', h3, h4⟩
    ·exact .inl h3
    ·simp at h3
 ·have m1 : (S ++ [(t, rest)]).map (·.1) = (S ++ [(t, rest ++ [(k : Int)])]).map (·.1) := by simp
  have q : ∀ (j : Nat) e, (S ++ [(t, rest)])[j]? = some e → ∃ e2, (S ++ [(t, rest ++ [(k : Int)])])[j]? = some e2 ∧ e2.1 = e.1 := by
   intro j e he
   have h1 : ((S ++ [(t, rest)]).map (·.1))[j]? = some e.1 := by rw [List.getElem?_map, he]; rfl
   rw [m1, List.getElem?_map, Option.map_eq_some_iff] at h1
   exact h1
  obtain ⟨e2, a1, a2⟩ := q j e he
  obtain ⟨e3, a3, a4⟩ := q (j + 1) e' he'
  have := h.lead j e2 e3 a1 a3
  rwa [a2, a4] at this
/-- the last one is done -/
theorem RInv.pop {r : RowD} {st : List Int} {S : Stk} {D : List Nat} {t : Nat} (h : RInv r st (S ++ [(t, [])]) D) : RInv r (st.set t 2) S (D ++ [t]) := by
 have ht1 : st[t]? = some 1 := (h.one t).2 (by simp)
 have htl := (List.getElem?_eq_some_iff.1 ht1).1
 have hnod := h.nod
 rw [List.map_append, List.nodup_append] at hnod
 have htS : t ∉ S.map (·.1) := fun hin => hnod.2.2 t hin t (by simp) rfl
 have hdone : DoneL r (D ++ [t]) := by
  refine h.done.push fun k hk => ?_
  have e1 : (S ++ [(t, ([] : List Int))])[S.length]? = some (t, []) := by simp
  obtain ⟨proc, h1, h2⟩ := h.ent _ _ e1
  simp only [List.nil_append] at h1
  rw [h1] at hk
  rcases h2 _ hk with ⟨k', e, hd⟩ | ⟨e', h3, _⟩
  ·have : k = k' := by omega
   rw [this]; exact hd
  ·simp at h3
 refine { len := by simp [h.len], done := hdone, two := fun i => ?_, one := fun i => ?_, vals := fun i v hv => ?_, nod := hnod.1, ent := fun j e he => ?_, lead := fun j e e' he he' => ?_ }
 ·rw [List.mem_append]
  by_cases e : t = i
  ·subst e
   rw [List.getElem?_set_self htl]
   simp
  ·rw [List.getElem?_set_ne e, h.two i]
   constructor
   ·exact .inl
   ·rintro (h | h)
    ·exact h
    ·simp at h; exact absurd h.symm e
 ·by_cases e : t = i
  ·subst e
   rw [List.getElem?_set_self htl]
   constructor
   ·intro e; injection e with e; omega
   ·intro hin; exact absurd hin htS
  ·rw [List.getElem?_set_ne e, h.one i, List.map_append, List.mem_append]
   constructor
   ·rintro (h | h)
    ·exact h
    ·simp at h; exact absurd h.symm e
   ·exact .inl
 ·by_cases e : t = i
  ·subst e
   rw [List.getElem?_set_self htl] at hv
   injection hv with hv
   omega
  ·rw [List.getElem?_set_ne e] at hv
   exact h.vals i v hv
 ·have hj : j < S.length := (List.getElem?_eq_some_iff.1 he).1
  have e1 : (S ++ [(t, ([] : List Int))])[j]? = some e := by rw [List.getElem?_append_left hj]; exact he
  obtain ⟨proc, h1, h2⟩ := h.ent j e e1
  refine ⟨proc, h1, fun x hx => ?_⟩
  rcases h2 x hx with ⟨k, h3, h4⟩ | ⟨e', h3, h4⟩
  ·exact .inl ⟨k, h3, by simp [h4]⟩
  ·by_cases hj1 : j + 1 < S.length
   ·rw [List.getElem?_append_left hj1] at h3
    exact .inr ⟨e', h3, h4⟩
   ·have hjj : j + 1 = S.length := by omega
    rw [List.getElem?_append_right (by omega), hjj, Nat.sub_self] at h3
    simp at h3
    subst h3
    exact .inl ⟨t, h4, by simp⟩
 ·refine h.lead j e e' ?_ ?_
  ·rw [List.getElem?_append_left (List.getElem?_eq_some_iff.1 he).1]; exact he
  ·rw [List.getElem?_append_left (List.getElem?_eq_some_iff.1 he').1]; exact he'
/-- each open one leads to the next: a way back closes a circle -/
theorem RInv.circle {r : RowD} {st : List Int} {S : Stk} {D : List Nat} {t k : Nat} {rest : List Int} (h : RInv r st (S ++ [(t, rest ++ [(k : Int)])]) D) (hk : st[k]? = some 1) : ¬ Ranked r := by
 have hin := (h.one k).1 hk
 obtain ⟨p, hp⟩ := List.mem_iff_getElem?.1 hin
 rw [List.getElem?_map, Option.map_eq_some_iff] at hp
 obtain ⟨ep, hp1, hp2⟩ := hp
 refine not_ranked (S := fun i => ∃ j e, p ≤ j ∧ (S ++ [(t, rest ++ [(k : Int)])])[j]? = some e ∧ e.1 = i) ⟨k, p, ep, Nat.le_refl _, hp1, hp2⟩ ?_
 rintro i ⟨j, e, hj, he, rfl⟩
 by_cases hl : j + 1 < (S ++ [(t, rest ++ [(k : Int)])]).length
 ·have he' := List.getElem?_eq_getElem hl
  exact ⟨_, h.lead j e _ he he', j + 1, _, by omega, he', rfl⟩
 ·have hjl : j = S.length := by
   have := (List.getElem?_eq_some_iff.1 he).1
   simp at this hl
   omega
  subst hjl
  obtain ⟨proc, h1, h2⟩ := h.ent _ _ he
  simp at he
  subst he
  exact ⟨k, by rw [h1]; simp, p, ep, Nat.le_refl _, hp1, hp2⟩
end Go.Bk.Liv
namespace Go.Proofs.YtgmapikcpnffhaaGreat
open Go.RowKit Go.Bk Go.Bk.Liv
set_option linter.unusedVariables false
set_option linter.unusedSimpArgs false

theorem grown_setCell (w : World) (b o : Nat) (u : Value) : w.grownBy (w.setCell ⟨b, o, none⟩ u) (some b) :=
 ⟨rfl, rfl, rfl, by simp, fun k _ hk => heap_setCell_other w ⟨b, o, none⟩ k u (fun e => hk (by simp [e]))⟩
theorem below_grownBy {w w' : World} (h : Below w.heap.size w w') : w.grownBy w' none := ⟨h.os, h.tape, h.output, h.size, fun k hk _ => h.block k hk⟩
theorem blk_setSame {w : World} {g : Nat} {e : TypeId} {cs : Array Value} (h : Blk w g e cs) (o : Nat) (u : Value) : Blk (w.setCell ⟨g, o, none⟩ u) g e (cs.setIfInBounds o u) := heap_setCell_same w g o cs e u h
theorem info_ints : (Tryz.prog.info? 23).map (fun i => (i.zero, i.size, i.bytes)) = some (some (.slice none 0 0), 1, 24) := by kernel_rfl

/-- an open instruction's entry, in memory -/
def EB (w : World) (gS : Nat) (v : Value) (l : List Int) : Prop := ∃ g c cur, v = .slice (some ⟨g, 0, none⟩) l.length c ∧ Blk w g 3 cur ∧ g ≠ gS ∧ l.length ≤ c ∧ cur.toList.take l.length = i64s l
theorem EB.of {w : World} {base gS : Nat} {v : Value} {l : List Int} (h : w.ownsRow base 3 1 v l.length (i64s l)) (hg : gS < base) (hl : 0 < l.length) : EB w gS v l := by
 rcases h.2 with ⟨h1, h2⟩ | ⟨g, cap, cur, h1, h2, h3, h4, _, _, h5⟩
 ·omega
 ·exact ⟨g, cap, cur, h1, h3, by omega, h4, by simpa using h5⟩
theorem EB.grown {w w' : World} {gS : Nat} {v : Value} {l : List Int} {r : Option Nat} (h : EB w gS v l) (hg : w.grownBy w' r) (hr : ∀ g cs, Blk w g 3 cs → g ≠ gS → r ≠ some g) : EB w' gS v l := by
 obtain ⟨g, c, cur, e, hb, hne, r1⟩ := h
 exact ⟨g, c, cur, e, hb.grown hg (hr g cur hb hne), hne, r1⟩
theorem EB.src {w : World} {gS : Nat} {v : Value} {l : List Int} (h : EB w gS v l) : ∃ g c, v = .slice (some ⟨g, 0, none⟩) l.length c ∧ l.length ≤ c ∧ Bk.Src w (some ⟨g, 0, none⟩) l.length (i64s l) := by
 obtain ⟨g, c, cur, e, hb, hne, hc, ht⟩ := h
 refine ⟨g, c, e, hc, ?_⟩
 have hl : l.length ≤ cur.size := by
  have := congrArg List.length ht
  rw [List.length_take, i64s_len] at this
  simp at this
  omega
 have := hb.src l.length hl
 rwa [ht] at this

/-- the search's memory -/
structure RM (w : World) (base bR bS bK gS : Nat) (rv : Array Value) (st : List Int) (stk : Stk) (v : Value) (vs : List Value) : Prop where
 r : Blk w bR 31 rv
 s : Blk w bS 23 #[.slice (some ⟨gS, 0, none⟩) st.length st.length]
 t : Blk w gS 3 (i64s st).toArray
 k : Blk w bK 43 #[v]
 own : w.ownsRow base 23 1 v stk.length vs
 ent : ∀ (j : Nat) u e, vs[j]? = some u → stk[j]? = some e → EB w gS u (ints' e)
 lR : base ≤ bR
 lS : base ≤ bS
 lT : base ≤ gS
 lK : base ≤ bK
 o1 : v.ownBlock ≠ some bS

theorem blk_ne {w : World} {a b : Nat} {s t : TypeId} {c d : Array Value} (h : Blk w a s c) (k : Blk w b t d) (hst : s ≠ t) : a ≠ b := by
 intro e
 subst e
 have := h.symm.trans k
 injection this with this
 injection this with _ h2
 exact hst h2
theorem own_ne {w : World} {base n b size : Nat} {s t : TypeId} {v : Value} {xs : List Value} {d : Array Value} (h : w.ownsRow base s size v n xs) (k : Blk w b t d) (hst : s ≠ t) : v.ownBlock ≠ some b := by
 rcases h.2 with ⟨h1, _⟩ | ⟨g, cap, cur, h1, h2, h3, _⟩
 ·subst h1; simp [Value.ownBlock]
 ·subst h1
  intro e
  injection e with e
  subst e
  exact blk_ne (show Blk w g s cur from h3) k hst rfl
theorem RM.base_lt {w : World} {base bR bS bK gS : Nat} {rv : Array Value} {st : List Int} {stk : Stk} {v : Value} {vs : List Value} (h : RM w base bR bS bK gS rv st stk v vs) : base ≤ w.heap.size := Nat.le_of_lt (Nat.lt_of_le_of_lt h.lR h.r.lt)
/-- memory that only grew -/
theorem RM.grown {w w' : World} {base bR bS bK gS : Nat} {rv : Array Value} {st : List Int} {stk : Stk} {v : Value} {vs : List Value} (h : RM w base bR bS bK gS rv st stk v vs) (hb : Below w.heap.size w w') : RM w' base bR bS bK gS rv st stk v vs :=
  { h with r := h.r.below hb h.r.lt, s := h.s.below hb h.s.lt, t := h.t.below hb h.t.lt, k := h.k.below hb h.k.lt, own := own_below h.own hb (Nat.le_refl _),
           ent := fun j u e h1 h2 => (h.ent j u e h1 h2).grown (below_grownBy hb) (fun _ _ _ _ => by simp) }
/-- an instruction's state is set -/
theorem RM.put {w : World} {base bR bS bK gS : Nat} {rv : Array Value} {st : List Int} {stk : Stk} {v : Value} {vs : List Value} (h : RM w base bR bS bK gS rv st stk v vs) (i : Nat) (x : Int) : RM (w.setCell ⟨gS, i, none⟩ (.int .i64 x)) base bR bS bK gS rv (st.set i x) stk v vs := by
 have hn := own_ne h.own h.t (by decide)
 refine { h with r := h.r.grown (grown_setCell w gS i _) ?_, s := ?_, t := ?_, k := h.k.grown (grown_setCell w gS i _) ?_, own := own_other h.own hn, ent := fun j u e h1 h2 => (h.ent j u e h1 h2).grown (grown_setCell w gS i _) (fun g cs _ hg e => hg (by injection e with e; exact e.symm)) }
 ·intro e; injection e with e; exact blk_ne h.t h.r (by decide) e
 ·rw [List.length_set]
  exact h.s.grown (grown_setCell w gS i _) (fun e => by injection e with e; exact blk_ne h.t h.s (by decide) e)
 ·have := blk_setSame h.t i (.int .i64 x)
  have e1 : (i64s st).toArray.setIfInBounds i (.int .i64 x) = (i64s (st.set i x)).toArray := by
   simp [i64s, List.map_set]
  rwa [e1] at this
 ·intro e; injection e with e; exact blk_ne h.t h.k (by decide) e
/-- an entry is laid on the stack -/
theorem RM.push {w w' : World} {base bR bS bK gS : Nat} {rv : Array Value} {st : List Int} {stk : Stk} {v v' u : Value} {vs : List Value} {e : Nat × List Int} (h : RM w base bR bS bK gS rv st stk v vs) (hu : EB w gS u (ints' e))
  (hg : w.grownBy w' v.ownBlock) (ho : w'.ownsRow base 23 1 v' (stk.length + 1) (vs ++ [u])) (hv : v'.ownBlock = v.ownBlock ∨ v'.ownBlock = some w.heap.size) :
  RM (w'.setCell ⟨bK, 0, none⟩ v') base bR bS bK gS rv st (stk ++ [e]) v' (vs ++ [u]) := by
 have hn : ∀ b t c, Blk w b t c → t ≠ 23 → v.ownBlock ≠ some b := fun b t c hb ht => own_ne h.own hb (fun e => ht e.symm)
 have hr := h.r.grown hg (hn _ _ _ h.r (by decide))
 have hs := h.s.grown hg h.o1
 have ht := h.t.grown hg (hn _ _ _ h.t (by decide))
 have hk := h.k.grown hg (hn _ _ _ h.k (by decide))
 have hlen : vs.length = stk.length := by have := h.own.1; simpa using this
 have gk := grown_setCell w' bK 0 v'
 refine { r := hr.grown gk ?_, s := hs.grown gk ?_, t := ht.grown gk ?_, k := ?_, own := ?_, ent := fun j x y h1 h2 => ?_, lR := h.lR, lS := h.lS, lT := h.lT, lK := h.lK, o1 := ?_ }
 ·intro e; injection e with e; exact blk_ne hk hr (by decide) e
 ·intro e; injection e with e; exact blk_ne hk hs (by decide) e
 ·intro e; injection e with e; exact blk_ne hk ht (by decide) e
 ·have := blk_setSame hk 0 v'
  simpa using this
 ·have : v'.ownBlock ≠ some bK := own_ne ho hk (by decide)
  have h2 := own_other (k := 0) (u := v') ho this
  simpa using h2
 ·have key : ∀ x y, EB w gS x y → EB (w'.setCell ⟨bK, 0, none⟩ v') gS x y := by
   intro x y hx
   refine (hx.grown hg (fun g cs hb _ => hn _ _ _ hb (by decide))).grown gk (fun g cs hb _ e => ?_)
   injection e with e
   exact blk_ne hk hb (by decide) e
  by_cases hj : j < stk.length
  ·rw [List.getElem?_append_left (by omega)] at h1
   rw [List.getElem?_append_left hj] at h2
   exact key _ _ (h.ent j x y h1 h2)
  ·rw [List.getElem?_append_right (by omega)] at h1 h2
   have h0 : j - stk.length = 0 := by
    have := (List.getElem?_eq_some_iff.1 h2).1
    simp at this
    omega
   rw [hlen, h0] at h1
   rw [h0] at h2
   simp at h1 h2
   subst h1
   subst h2
   exact key _ _ hu
 ·rcases hv with e | e
  ·rw [e]; exact h.o1
  ·rw [e]
   intro e'
   injection e' with e'
   have := h.s.lt
   omega
end Go.Proofs.YtgmapikcpnffhaaGreat
namespace Go.Proofs.YtgmapikcpnffhaaGreat
open Go.RowKit Go.Bk Go.Bk.Liv
set_option linter.unusedVariables false
set_option linter.unusedSimpArgs false

def ViPost (r : RowD) (base bR bS bK gS : Nat) (rv : Array Value) (st : List Int) (stk : Stk) (i : Nat) (w : World) (en : Ending) (w' : World) : Prop :=
 (st[i]? = some 0 ∧ ∃ v' vs', en = .returned (.bool false) ∧ RM w' base bR bS bK gS rv (st.set i 1) (stk ++ [(i, edges r i)]) v' vs' ∧ Below base w w') ∨
 (∃ x, st[i]? = some x ∧ x ≠ 0 ∧ en = .returned (.bool (x == 1)) ∧ w = w')

theorem st_cell {w : World} {gS : Nat} {st : List Int} (h : Blk w gS 3 (i64s st).toArray) {i : Nat} {x : Int} (hx : st[i]? = some x) : w.cell? ⟨gS, i, none⟩ = some (.int .i64 x) := by
 rw [h.cell]
 simp [i64s, hx]

set_option maxRecDepth 100000 in
set_option maxHeartbeats 4000000 in
theorem visit_any (r : RowD) (base bR bS bK gS : Nat) (rv : Array Value) (st : List Int) (stk : Stk) (v : Value) (vs : List Value) (i : Nat) (c : CodeD) (w0 w : World) (h : RM w base bR bS bK gS rv st stk v vs)
  (hr : RowV w0 (.agg rv) r) (hw0 : w0.heap.size ≤ base) (hb0 : Below base w0 w) (hi : r.code[i]? = some c) (hl : st.length = r.code.length) (hto : c.op = 274 → 0 < c.to.length) (hnx : (nextOf c i).length ≤ 66) (hsk : stk.length ≤ 4096) (hcl : r.code.length ≤ 4096) :
  Calls Tryz.prog 103 #[.int .i64 (i : Int), .pointer (some ⟨bS, 0, none⟩), .pointer (some ⟨bR, 0, none⟩), .pointer (some ⟨bK, 0, none⟩)] w (ViPost r base bR bS bK gS rv st stk i w) := by
 have hlt : i < r.code.length := (List.getElem?_eq_some_iff.1 hi).1
 obtain ⟨x, hx⟩ : ∃ x, st[i]? = some x := ⟨_, List.getElem?_eq_getElem (by omega)⟩
 have cS := h.s.cell 0
 simp at cS
 have cT := st_cell h.t hx
 have HX := Lib.hid hx
 have HH := Lib.hid h
 obtain ⟨n, hn⟩ : ∃ n, st.length = n := ⟨_, rfl⟩
 rw [hn] at cS
 have hin : i < n := by omega
 have hin2 : (i : Int) < (n : Int) := by omega
 have HN := Lib.hid hn
 have HL := Lib.hid hl
 clear h hx hn hl
 by_cases h0 : x = 0
 ·subst h0
  have HR := Lib.hid hr
  obtain ⟨vp, vq, vr, vs', erv, h4, h5, h6, h7⟩ := hr
  injection erv with erv
  subst erv
  obtain ⟨Ap, cp, rfl⟩ := h4.shape
  obtain ⟨Aq, cq, rfl⟩ := h5.shape
  obtain ⟨Ar, cr, rfl⟩ := h6.shape
  obtain ⟨Ac, cc, rfl, _⟩ := h7.len
  obtain ⟨gb, go, p, q, t, rfl, hgb, c0, _⟩ := h7.code hi
  have c0 := (hb0.cell (p := ⟨gb, go + i * 5, none⟩) (by show gb < base; omega)).trans c0
  obtain ⟨r0, r1, r2, r3, r4⟩ := blk5 HH.out.r
  have hlt2 : (i : Int) < (r.code.length : Int) := by omega
  have n1 : bR ≠ gS := fun e => blk_ne HH.out.t HH.out.r (by decide) e.symm
  have n2 : gS ≠ bR := fun e => n1 e.symm
  have n3 : bS ≠ gS := fun e => blk_ne HH.out.t HH.out.s (by decide) e.symm
  have n4 : gS ≠ bS := fun e => n3 e.symm
  have n5 : gb ≠ gS := by have := HH.out.lT; omega
  have n6 : gS ≠ gb := fun e => n5 e.symm
  have s1 := HH.out.r.lt
  have s2 := HH.out.s.lt
  have s3 := HH.out.t.lt
  have s4 := HH.out.k.lt
  have s5 : gb < w.heap.size := by have := HH.out.base_lt; omega
  have z0 := frz HH.out.t i
  have n7 : bK ≠ gS := fun e => blk_ne HH.out.t HH.out.k (by decide) e.symm
  have n8 : gS ≠ bK := fun e => n7 e.symm
  have P1 := Lib.hid (HH.out.put i 1)
  obtain ⟨Av, cv, rfl, _⟩ := own_shape HH.out.own
  have cK := HH.out.k.cell 0
  simp at cK
  obtain ⟨m, hm⟩ : ∃ m, stk.length = m := ⟨_, rfl⟩
  rw [hm] at cK
  have hmk : m ≤ 4096 := by omega
  have HM := Lib.hid hm
  have nk := own_ne HH.out.own HH.out.k (show (23 : Nat) ≠ 43 by decide)
  rw [hm] at nk
  have NK := Lib.hid nk
  clear hm hsk nk
  have HB0 := Lib.hid hb0
  have HTO := Lib.hid hto
  have HNX := Lib.hid hnx
  have HI := Lib.hid hi
  clear h4 h5 h6 h7 hb0 hto hnx hi
  by_cases ht : c.op = 258
  ·have ht' : (c.op != 258) = false := by simp [ht]
   have HE := Lib.hid (edges_tick HI.out ht)
   clear ht
   go_enter Tryz.func103, Tryz.ntmps103
   have P2 := Lib.hid (P1.out.grown ((Below.refl _ _).alloc (Nat.le_refl _) (.cells #[.int .i64 (i : Int)] 3)))
   have P3 := Lib.hid (P2.out.grown ((Below.refl _ _).alloc (Nat.le_refl _) (.cells #[.slice (some ⟨w.heap.size, 0, none⟩) 1 1] 23)))
   have B3 := Lib.hid (show Below base w _ from (((Below.refl base w).setCell (p := ⟨gS, i, none⟩) HH.out.lT (.int .i64 1)).alloc (by simp; exact HH.out.base_lt) (.cells #[.int .i64 (i : Int)] 3)).alloc (by simp; have := HH.out.base_lt; omega) (.cells #[.slice (some ⟨w.heap.size, 0, none⟩) 1 1] 23))
   have PU := Lib.hid (show EB (((w.setCell ⟨gS, i, none⟩ (.int .i64 1)).alloc (.cells #[.int .i64 (i : Int)] 3)).alloc (.cells #[.slice (some ⟨w.heap.size, 0, none⟩) 1 1] 23)) gS (.slice (some ⟨w.heap.size, 0, none⟩) 1 1) (ints' (i, edges r i)) by
    rw [HE.out]
    exact ⟨w.heap.size, 1, #[.int .i64 (i : Int)], rfl, (Blk.newAt (w.setCell ⟨gS, i, none⟩ (.int .i64 1)) _ _ (by simp)).alloc _, by omega, by simp [ints'], rfl⟩)
   go_wp2_with (at_builtin; refine append_at _ rfl (.tmp 29) (.tmp 31) 43 rfl base 23 (.slice none 0 0) 1 24 Tryz.underlying43 info_ints rfl (by omega) (.slice Av m cv) m vs rfl (by rw [← HM.out]; exact P3.out.own) (some ⟨w.heap.size + 1, 0, none⟩) 1 1 [.slice (some ⟨w.heap.size, 0, none⟩) 1 1] rfl (Blk.srcAll (cs := #[.slice (some ⟨w.heap.size, 0, none⟩) 1 1]) (Blk.newAt _ _ _ (by simp)) rfl) (by intro u hu; obtain rfl := List.mem_singleton.1 hu; rfl) (by unfold maxLen; omega) (by omega) (by have := P3.out.base_lt; exact this) ?_)
   rintro v1 w1 h1 h2 h3 _
   obtain ⟨A1, c1, hv1, _⟩ := own_shape h1
   subst hv1
   have hk1 := P3.out.k.grown h2 NK.out
   have k0 := hk1.cell 0
   simp at k0
   have kz := frz hk1 0
   have kl := hk1.lt
   have hu := PU
   have hp := P3.out.push (e := (i, edges r i)) hu.out (by rw [HM.out] at *; exact h2) (by rw [HM.out]; exact h1) (by rw [HM.out]; simpa using h3)

   have HP := Lib.hid hp
   have hbp := below_grown B3.out h2 (by have := P3.out.base_lt; exact this) (fun k hk => (P3.out.own.lt k (by rw [HM.out]; exact hk)).1)
   have HBP := Lib.hid (hbp.setCell (p := ⟨bK, 0, none⟩) P3.out.lK (.slice A1 (m + 1) c1))
   clear h1 h2 h3 hk1 hp hbp hu
   go_wp2
   go_ret
   exact .inl ⟨HX.out, _, _, rfl, HP.out, HBP.out⟩
  ·have ht' : (c.op != 258) = true := by simp [ht]
   have HE := Lib.hid (edges_of HI.out ht)
   clear ht
   go_enter Tryz.func103, Tryz.ntmps103
   have P2 := Lib.hid (P1.out.grown ((Below.refl _ _).alloc (Nat.le_refl _) (.cells #[.int .i64 (i : Int)] 3)))
   have B2 := Lib.hid (show Below base w _ from ((Below.refl base w).setCell (p := ⟨gS, i, none⟩) HH.out.lT (.int .i64 1)).alloc (by simp; exact HH.out.base_lt) (.cells #[.int .i64 (i : Int)] 3))
   have L2 := Lib.hid (Blk.newAt (w.setCell ⟨gS, i, none⟩ (.int .i64 1)) (N := w.heap.size) 3 #[.int .i64 (i : Int)] (by simp))
   have HR2 := Lib.hid (HR.out.below (HB0.out.trans B2.out) hw0)
   have D0 := Lib.hid (show Below w.heap.size (w.setCell ⟨gS, i, none⟩ (.int .i64 1)) ((w.setCell ⟨gS, i, none⟩ (.int .i64 1)).alloc (.cells #[.int .i64 (i : Int)] 3)) from (Below.refl _ _).alloc (by simp) _)
   go_wp2_with fail
   refine (lnext_any r _ i c _ HR2.out HI.out HTO.out).mono ?_
   rintro en w2 ⟨vn, rfl, hvn, hb2⟩
   obtain ⟨An, cn, rfl⟩ := hvn.shape
   obtain ⟨A', c', e', hsn⟩ := hvn
   injection e' with e1 e2 e3
   subst e1
   subst e3
   have HSN := Lib.hid hsn
   have L3 := Lib.hid (L2.out.below hb2 L2.out.lt)
   have D2 := Lib.hid (D0.out.trans (hb2.mono (by simp)))
   have hz2 : w.heap.size ≤ w2.heap.size := by have := hb2.size; simp at this; omega
   have hnl := HNX.out
   obtain ⟨nx, hnx⟩ : ∃ nx, (nextOf c i).length = nx := ⟨_, rfl⟩
   rw [hnx] at hnl
   rw [hnx] at HSN ⊢
   have HNL := Lib.hid hnx
   clear hb2 hsn hnx
   go_wp2_with (at_builtin; refine append_own _ rfl (.tmp 24) (.tmp 27) 23 rfl w.heap.size 3 (.int .i64 0) 8 Tryz.underlying23 info_int rfl (.slice (some ⟨w.heap.size, 0, none⟩) 1 1) 1 [.int .i64 (i : Int)] rfl (Blk.own (n := 1) (cs := #[.int .i64 (i : Int)]) L3.out (Nat.le_refl _) rfl (by unfold maxLen; omega)) An nx cn (i64s (nextOf c i)) rfl HSN.out (i64s_one _) (by unfold maxLen; omega) (by omega) hz2 ?_)
   rintro v3 w3 h31 h32
   obtain ⟨A3, c3, hv3, _⟩ := own_shape h31
   subst hv3
   have D3 := Lib.hid (D2.out.trans h32)
   have P3 := Lib.hid (P1.out.grown (by simpa using D3.out))
   have hb3 : Below base w w3 := ((Below.refl base w).setCell (p := ⟨gS, i, none⟩) HH.out.lT (.int .i64 1)).trans (D3.out.mono HH.out.base_lt)
   have PE := Lib.hid (show EB w3 gS (.slice A3 (1 + nx) c3) (ints' (i, edges r i)) by
    rw [HE.out]
    have e : (1 + nx) = (ints' (i, nextOf c i)).length := by simp [ints', HNL.out]; omega
    rw [e]
    rw [e] at h31
    exact EB.of h31 HH.out.t.lt (by simp [ints']))
   have hz3 := D3.out.size
   simp at hz3
   have hz4 := P3.out.base_lt
   have cK3 := P3.out.k.cell 0
   simp at cK3
   rw [HM.out] at cK3
   have HB3 := Lib.hid hb3
   have P4 := Lib.hid (P3.out.grown ((Below.refl _ _).alloc (Nat.le_refl _) (.cells #[.slice A3 (1 + nx) c3] 23)))
   have B4 := Lib.hid (HB3.out.alloc hz4 (.cells #[.slice A3 (1 + nx) c3] 23))
   have PU := Lib.hid (PE.out.grown (World.grownBy_alloc w3 (.cells #[.slice A3 (1 + nx) c3] 23) none) (fun _ _ _ _ => by simp))
   clear h31 h32 hb3 cK
   go_wp2_with (at_builtin; refine append_at _ rfl (.tmp 29) (.tmp 31) 43 rfl base 23 (.slice none 0 0) 1 24 Tryz.underlying43 info_ints rfl (by omega) (.slice Av m cv) m vs rfl (by rw [← HM.out]; exact P4.out.own) (some ⟨w3.heap.size, 0, none⟩) 1 1 [.slice A3 (1 + nx) c3] rfl (Blk.srcAll (cs := #[.slice A3 (1 + nx) c3]) (Blk.newAt _ _ _ (by simp)) rfl) (by intro u hu; obtain rfl := List.mem_singleton.1 hu; rfl) (by unfold maxLen; omega) (by omega) (by have := P4.out.base_lt; exact this) ?_)
   rintro v1 w1 h1 h2 h3 _
   obtain ⟨A1, c1, hv1, _⟩ := own_shape h1
   subst hv1
   have hk1 := P4.out.k.grown h2 NK.out
   have k0 := hk1.cell 0
   simp at k0
   have kz := frz hk1 0
   have kl := hk1.lt
   have hu := PU
   have hp := P4.out.push (e := (i, edges r i)) hu.out (by rw [HM.out] at *; exact h2) (by rw [HM.out]; exact h1) (by rw [HM.out]; simpa using h3)

   have HP := Lib.hid hp
   have hbp := below_grown B4.out h2 (by have := P4.out.base_lt; exact this) (fun k hk => (P4.out.own.lt k (by rw [HM.out]; exact hk)).1)
   have HBP := Lib.hid (hbp.setCell (p := ⟨bK, 0, none⟩) P4.out.lK (.slice A1 (m + 1) c1))
   clear h1 h2 h3 hk1 hp hbp hu
   go_wp2
   go_ret
   exact .inl ⟨HX.out, _, _, rfl, HP.out, HBP.out⟩
 ·have h0' : (x == 0) = false := by simpa using h0
  have HX0 := Lib.hid h0
  clear h0
  go_enter Tryz.func103, Tryz.ntmps103
  go_wp2
  go_ret
  exact .inr ⟨x, HX.out, HX0.out, rfl, rfl⟩
end Go.Proofs.YtgmapikcpnffhaaGreat
namespace Go.Proofs.YtgmapikcpnffhaaGreat
open Go.RowKit Go.Bk Go.Bk.Liv
set_option linter.unusedVariables false
set_option linter.unusedSimpArgs false

/-- the last entry's own value -/
theorem RM.top {w : World} {base bR bS bK gS : Nat} {rv : Array Value} {st : List Int} {S : Stk} {e : Nat × List Int} {v : Value} {vs : List Value} (h : RM w base bR bS bK gS rv st (S ++ [e]) v vs) :
  ∃ gk cv g c, v = .slice (some ⟨gk, 0, none⟩) (S.length + 1) cv ∧ S.length + 1 ≤ cv ∧ gk < w.heap.size ∧ base ≤ gk ∧ gk ≠ bS ∧ gk ≠ bR ∧ gk ≠ gS ∧ gk ≠ bK ∧ g ≠ gk ∧ w.cell? ⟨gk, S.length, none⟩ = some (.slice (some ⟨g, 0, none⟩) (e.2.length + 1) c) ∧ w.frozen? ⟨gk, S.length, none⟩ = false ∧ e.2.length + 1 ≤ c ∧
   Bk.Src w (some ⟨g, 0, none⟩) (e.2.length + 1) (i64s (ints' e)) ∧ vs.length = S.length + 1 ∧ g < w.heap.size ∧ g ≠ gS ∧ g ≠ bS ∧ g ≠ bK ∧ g ≠ bR := by
 have ho := h.own
 have hsl : (S ++ [e]).length = S.length + 1 := by simp
 rw [hsl] at ho
 obtain ⟨gk, cv, rfl, hlt, hb, hc⟩ := own_at ho (by omega)
 have hlen : vs.length = S.length + 1 := by have := ho.1; simpa using this
 have hcell := ho.cellAt S.length (by omega)
 have hu : vs[S.length]? = some (vs[S.length]'(by omega)) := List.getElem?_eq_getElem (by omega)
 obtain ⟨g, c, cur, e1, hbk, hne, hlc, htk⟩ := h.ent S.length _ e hu (by simp)
 have hsrc : ∃ c', Bk.Src w (some ⟨g, 0, none⟩) (ints' e).length (i64s (ints' e)) := ⟨c, by
  have hl : (ints' e).length ≤ cur.size := by
   have := congrArg List.length htk
   rw [List.length_take, i64s_len] at this
   simp at this
   omega
  have := hbk.src (ints' e).length hl
  rwa [htk] at this⟩
 obtain ⟨_, hsrc⟩ := hsrc
 have hie : (ints' e).length = e.2.length + 1 := by simp [ints']
 rw [hie] at e1 hlc hsrc
 have q1 := own_ne ho h.r (by decide)
 have q2 := own_ne ho h.t (by decide)
 have q3 := own_ne ho h.k (by decide)
 have q4 := h.o1
 have q5 := own_ne ho hbk (by decide)
 rw [hu, e1] at hcell
 exact ⟨gk, cv, g, c, rfl, hc, hlt, hb, fun e => q4 (by rw [e]; rfl), fun e => q1 (by rw [e]; rfl), fun e => q2 (by rw [e]; rfl), fun e => q3 (by rw [e]; rfl), fun e => q5 (by rw [← e]; rfl), hcell, ho.frozenAt _, hlc, hsrc, hlen, hbk.lt, hne, blk_ne hbk h.s (by decide), blk_ne hbk h.k (by decide), blk_ne hbk h.r (by decide)⟩
theorem RM.drew {w : World} {base bR bS bK gS : Nat} {rv : Array Value} {st : List Int} {stk : Stk} {v : Value} {vs : List Value} (h : RM w base bR bS bK gS rv st stk v vs) : RM w.drew base bR bS bK gS rv st stk v vs :=
 { r := h.r, s := h.s, t := h.t, k := h.k, own := h.own, ent := fun j u e h1 h2 => h.ent j u e h1 h2, lR := h.lR, lS := h.lS, lT := h.lT, lK := h.lK, o1 := h.o1 }
/-- the last entry is taken off -/
theorem RM.pop {w : World} {base bR bS bK gS gk cv : Nat} {rv : Array Value} {st : List Int} {S : Stk} {e : Nat × List Int} {vs : List Value} (h : RM w base bR bS bK gS rv st (S ++ [e]) (.slice (some ⟨gk, 0, none⟩) (S.length + 1) cv) vs) :
  RM (w.setCell ⟨bK, 0, none⟩ (.slice (some ⟨gk, 0, none⟩) S.length cv)) base bR bS bK gS rv st S (.slice (some ⟨gk, 0, none⟩) S.length cv) (vs.take S.length) := by
 have gkk := grown_setCell w bK 0 (.slice (some ⟨gk, 0, none⟩) S.length cv)
 have hsl : (S ++ [e]).length = S.length + 1 := by simp
 have ho := h.own
 rw [hsl] at ho
 have hq : (Value.slice (some ⟨gk, 0, none⟩) S.length cv).ownBlock ≠ some bK := by have := own_ne ho h.k (by decide); exact this
 have ht := own_take (k := S.length) ho (by omega) (by simp)
 rw [Nat.mul_one] at ht
 refine { h with r := h.r.grown gkk ?_, s := h.s.grown gkk ?_, t := h.t.grown gkk ?_, k := ?_, own := own_other ht hq, ent := fun j x y h1 h2 => ?_, o1 := h.o1 }
 ·intro e; injection e with e; exact blk_ne h.k h.r (by decide) e
 ·intro e; injection e with e; exact blk_ne h.k h.s (by decide) e
 ·intro e; injection e with e; exact blk_ne h.k h.t (by decide) e
 ·have := blk_setSame h.k 0 (.slice (some ⟨gk, 0, none⟩) S.length cv)
  simpa using this
 ·have hj : j < S.length := (List.getElem?_eq_some_iff.1 h2).1
  rw [List.getElem?_take, if_pos hj] at h1
  refine (h.ent j x y h1 (by rw [List.getElem?_append_left hj]; exact h2)).grown gkk (fun g cs hb _ e => ?_)
  injection e with e
  exact blk_ne h.k hb (by decide) e
/-- the last entry is shortened -/
theorem RM.shrink {w : World} {base bR bS bK gS gk cv g c t : Nat} {x : Int} {rest : List Int} {rv : Array Value} {st : List Int} {S : Stk} {vs : List Value} (h : RM w base bR bS bK gS rv st (S ++ [(t, rest ++ [x])]) (.slice (some ⟨gk, 0, none⟩) (S.length + 1) cv) vs)
  (hcell : w.cell? ⟨gk, S.length, none⟩ = some (.slice (some ⟨g, 0, none⟩) ((rest ++ [x]).length + 1) c)) :
  RM (w.setCell ⟨gk, S.length, none⟩ (.slice (some ⟨g, 0, none⟩) (rest.length + 1) c)) base bR bS bK gS rv st (S ++ [(t, rest)]) (.slice (some ⟨gk, 0, none⟩) (S.length + 1) cv) (vs.set S.length (.slice (some ⟨g, 0, none⟩) (rest.length + 1) c)) := by
 have hsl : ∀ e : Nat × List Int, (S ++ [e]).length = S.length + 1 := fun e => by simp
 have ho := h.own
 rw [hsl] at ho
 obtain ⟨hst, hgr⟩ := ho.stored S.length (.slice (some ⟨g, 0, none⟩) (rest.length + 1) c)
 have hlen : vs.length = S.length + 1 := by have := ho.1; simpa using this
 have n1 := own_ne ho h.r (by decide)
 have n2 := own_ne ho h.t (by decide)
 have n3 := own_ne ho h.k (by decide)
 refine { h with r := h.r.grown hgr n1, s := h.s.grown hgr h.o1, t := h.t.grown hgr n2, k := h.k.grown hgr n3, own := by rw [hsl]; exact hst, ent := fun j y e h1 h2 => ?_ }
 have gr : ∀ u l, EB w gS u l → EB (w.setCell ⟨gk, S.length, none⟩ (.slice (some ⟨g, 0, none⟩) (rest.length + 1) c)) gS u l := fun u l hu => hu.grown hgr (fun g' cs hb _ => own_ne ho hb (by decide))
 by_cases hj : j < S.length
 ·rw [List.getElem?_set_ne (by omega)] at h1
  rw [List.getElem?_append_left hj] at h2
  exact gr _ _ (h.ent j y e h1 (by rw [List.getElem?_append_left hj]; exact h2))
 ·have hjj : j = S.length := by
   have := (List.getElem?_eq_some_iff.1 h2).1
   simp at this
   omega
  subst hjj
  rw [List.getElem?_set_self (by omega)] at h1
  simp at h1 h2
  subst h1
  subst h2
  have hu : vs[S.length]? = some (vs[S.length]'(by omega)) := List.getElem?_eq_getElem (by omega)
  have hE := h.ent S.length _ (t, rest ++ [x]) hu (by simp)
  have hcc := ho.cellAt S.length (by omega)
  rw [hcell, hu] at hcc
  injection hcc with hcc
  rw [← hcc] at hE
  obtain ⟨g', c', cur, e1, e2, e3, e4, e5⟩ := hE
  injection e1 with a1 a2 a3
  injection a1 with a1
  injection a1 with a1
  subst a1
  subst a3
  refine gr _ _ ⟨g, c, cur, by simp [ints'], e2, e3, by simp [ints'] at e4 ⊢; omega, ?_⟩
  have := congrArg (List.take (rest.length + 1)) e5
  rw [List.take_take, i64s_take] at this
  have q1 : min (rest.length + 1) (ints' (t, rest ++ [x])).length = (ints' (t, rest)).length := by simp [ints']
  have q2 : (ints' (t, rest ++ [x])).take (rest.length + 1) = ints' (t, rest) := by simp [ints']
  rw [q1, q2] at this
  exact this

/-- how much is still to be done -/
def muS (st : List Int) (stk : Stk) : Nat := 70 * st.count 0 + (stk.map fun e => e.2.length + 1).sum
theorem count_one {st : List Int} {k : Nat} {x y : Int} (h : st[k]? = some x) (hx : x ≠ 0) (hy : y ≠ 0) : (st.set k y).count 0 = st.count 0 := by
 obtain ⟨hk, e⟩ := List.getElem?_eq_some_iff.1 h
 rw [List.count_set hk, e]
 simp [hx, hy]
theorem count_zero' {st : List Int} {k : Nat} {y : Int} (h : st[k]? = some 0) (hy : y ≠ 0) : (st.set k y).count 0 + 1 = st.count 0 := by
 obtain ⟨hk, e⟩ := List.getElem?_eq_some_iff.1 h
 have hp : 0 < st.count 0 := List.count_pos_iff.2 (List.mem_of_getElem? h)
 rw [List.count_set hk, e]
 simp [hy]
 omega
theorem mu_pop {st : List Int} {S : Stk} {t : Nat} (h : st[t]? = some 1) : muS (st.set t 2) S < muS st (S ++ [(t, [])]) := by
 unfold muS
 rw [count_one h (by decide) (by decide)]
 simp
theorem mu_skip {st : List Int} {S : Stk} {t : Nat} {rest : List Int} {x : Int} : muS st (S ++ [(t, rest)]) < muS st (S ++ [(t, rest ++ [x])]) := by
 unfold muS
 simp
theorem mu_fresh {st : List Int} {S : Stk} {t k : Nat} {rest l : List Int} {x : Int} (h : st[k]? = some 0) (hl : l.length ≤ 66) : muS (st.set k 1) (S ++ [(t, rest)] ++ [(k, l)]) < muS st (S ++ [(t, rest ++ [x])]) := by
 unfold muS
 have := count_zero' (y := 1) h (by decide)
 simp
 omega
end Go.Proofs.YtgmapikcpnffhaaGreat
