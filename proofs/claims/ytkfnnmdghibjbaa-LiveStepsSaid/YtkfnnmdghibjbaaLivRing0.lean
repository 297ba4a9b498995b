/-
  Going round without a tick, in plain words: what a search along open instructions keeps.
  Conditions: none.
-/
import Derived.Test.YtkfnnmdghibjbaaLivPlain
namespace Go.Bk.Liv
open Go Go.Bk

/-- what comes behind an instruction, if it is no tick -/
def edges (r : RowD) (i : Nat) : List Int := match r.code[i]? with
  | some c => if c.op = 258 then [] else nextOf c i
  | none => []
theorem edges_of {r : RowD} {i : Nat} {c : CodeD} (h : r.code[i]? = some c) (hc : c.op ≠ 258) : edges r i = nextOf c i := by simp [edges, h, hc]
theorem edges_tick {r : RowD} {i : Nat} {c : CodeD} (h : r.code[i]? = some c) (hc : c.op = 258) : edges r i = [] := by simp [edges, h, hc]
/-- an order in which all that comes behind stands ahead -/
def DoneL (r : RowD) (D : List Nat) : Prop := ∀ p i, D[p]? = some i → ∀ k : Nat, (k : Int) ∈ edges r i → k ∈ D.take p
theorem DoneL.nil (r : RowD) : DoneL r [] := fun p i h => by simp at h
theorem DoneL.push {r : RowD} {D : List Nat} {i : Nat} (h : DoneL r D) (hk : ∀ k : Nat, (k : Int) ∈ edges r i → k ∈ D) : DoneL r (D ++ [i]) := by
  intro p j hj k hkk
  by_cases hp : p < D.length
  · rw [List.getElem?_append_left hp] at hj
    rw [List.take_append_of_le_length (by omega)]
    exact h p j hj k hkk
  · rw [List.getElem?_append_right (by omega)] at hj
    have hp0 : p - D.length = 0 := by
      have := (List.getElem?_eq_some_iff.1 hj).1
      simp at this
      omega
    rw [hp0] at hj
    simp at hj
    subst hj
    have hp' : p = D.length := by omega
    rw [hp', List.take_append_of_le_length (Nat.le_refl _), List.take_of_length_le (Nat.le_refl _)]
    exact hk k hkk
theorem DoneL.mem {r : RowD} {D : List Nat} (h : DoneL r D) {i k : Nat} (hi : i ∈ D) (hk : (k : Int) ∈ edges r i) : k ∈ D := by
  obtain ⟨p, hp⟩ := List.mem_iff_getElem?.1 hi
  exact List.mem_of_mem_take (h p i hp k hk)
theorem mem_take_idx {D : List Nat} {k p : Nat} (h : k ∈ D.take p) : D.idxOf k < p := by
  induction D generalizing p with
  | nil => simp at h
  | cons a D ih =>
    cases p with
    | zero => simp at h
    | succ p =>
      rw [List.take_succ_cons] at h
      rw [List.idxOf_cons]
      by_cases e : a = k
      · subst e; simp
      · have hk : k ∈ D.take p := by
          rcases List.mem_cons.1 h with h | h
          · exact absurd h.symm e
          · exact h
        have := ih hk
        have e' : (a == k) = false := by simp [e]
        rw [e']
        simp
        exact this
theorem DoneL.ranked {r : RowD} {D : List Nat} (h : DoneL r D) (hall : ∀ i, i < r.code.length → i ∈ D) : Ranked r := by
  refine ⟨fun i => D.idxOf i, fun i c k hi hc hk => ?_⟩
  have hin := hall i (List.getElem?_eq_some_iff.1 hi).1
  have hlt : D.idxOf i < D.length := List.idxOf_lt_length_iff.2 hin
  have hg : D[D.idxOf i]? = some i := by rw [List.getElem?_eq_getElem hlt]; simp
  exact mem_take_idx (h _ i hg k (by rw [edges_of hi hc]; exact hk))
/-- where some instructions always lead on among themselves, none is ranked -/
theorem not_ranked {r : RowD} {S : Nat → Prop} (h0 : ∃ i, S i) (h : ∀ i, S i → ∃ k : Nat, (k : Int) ∈ edges r i ∧ S k) : ¬ Ranked r := by
  rintro ⟨rk, hr⟩
  have key : ∀ m i, rk i = m → S i → False := by
    intro m
    induction m using Nat.strongRecOn with
    | _ m ih =>
      intro i hm hs
      obtain ⟨k, hk, hsk⟩ := h i hs
      unfold edges at hk
      split at hk
      · rename_i c hc
        split at hk
        · simp at hk
        · rename_i hop
          have := hr i c k hc hop hk
          exact ih (rk k) (by omega) k rfl hsk
      · simp at hk
  obtain ⟨i, hi⟩ := h0
  exact key _ i rfl hi

/-- open instructions, each with what is left of what comes behind it -/
abbrev Stk := List (Nat × List Int)
def ints' (e : Nat × List Int) : List Int := (e.1 : Int) :: e.2
structure RInv (r : RowD) (st : List Int) (stk : Stk) (D : List Nat) : Prop where
  len : st.length = r.code.length
  done : DoneL r D
  two : ∀ i : Nat, st[i]? = some 2 ↔ i ∈ D
  one : ∀ i : Nat, st[i]? = some 1 ↔ i ∈ stk.map (·.1)
  vals : ∀ (i : Nat) v, st[i]? = some v → v = 0 ∨ v = 1 ∨ v = 2
  nod : (stk.map (·.1)).Nodup
  ent : ∀ (j : Nat) e, stk[j]? = some e → ∃ proc, edges r e.1 = e.2 ++ proc ∧ ∀ x ∈ proc, (∃ k : Nat, x = k ∧ k ∈ D) ∨ (∃ e', stk[j + 1]? = some e' ∧ x = (e'.1 : Int))
  lead : ∀ (j : Nat) e e', stk[j]? = some e → stk[j + 1]? = some e' → (e'.1 : Int) ∈ edges r e.1

theorem RInv.lt {r : RowD} {st : List Int} {stk : Stk} {D : List Nat} (h : RInv r st stk D) {e : Nat × List Int} (he : e ∈ stk) : e.1 < r.code.length := by
  have := (h.one e.1).2 (List.mem_map.2 ⟨e, he, rfl⟩)
  rw [← h.len]
  exact (List.getElem?_eq_some_iff.1 this).1
theorem RInv.small {r : RowD} {st : List Int} {stk : Stk} {D : List Nat} (h : RInv r st stk D) : stk.length ≤ r.code.length := by
  have h1 : (stk.map (·.1)).length ≤ (List.range r.code.length).length :=
    List.Nodup.length_le_of_subset h.nod fun x hx => by
      obtain ⟨e, he, rfl⟩ := List.mem_map.1 hx
      exact List.mem_range.2 (h.lt he)
  simpa using h1
theorem RInv.start {r : RowD} : RInv r (List.replicate r.code.length 0) [] [] where
  len := by simp
  done := DoneL.nil r
  two i := ⟨fun h => by
    obtain ⟨hl, h⟩ := List.getElem?_eq_some_iff.1 h
    simp at h, fun h => by simp at h⟩
  one i := ⟨fun h => by
    obtain ⟨hl, h⟩ := List.getElem?_eq_some_iff.1 h
    simp at h, fun h => by simp at h⟩
  vals i v h := by
    obtain ⟨hl, h⟩ := List.getElem?_eq_some_iff.1 h
    simp at h
    omega
  nod := by simp
  ent j e h := by simp at h
  lead j e e' h := by simp at h
/-- a fresh one is opened -/
theorem RInv.open {r : RowD} {st : List Int} {S : Stk} {D : List Nat} {k : Nat} (h : RInv r st S D) (hk : st[k]? = some 0) (hl : ∀ e, S[S.length - 1]? = some e → (k : Int) ∈ edges r e.1)
    : RInv r (st.set k 1) (S ++ [(k, edges r k)]) D := by
  have hkl := (List.getElem?_eq_some_iff.1 hk).1
  have hn : k ∉ S.map (·.1) := fun hin => by have := (h.one k).2 hin; rw [hk] at this; injection this with this; omega
  refine { len := by simp [h.len], done := h.done, two := fun i => ?_, one := fun i => ?_, vals := fun i v hv => ?_, nod := ?_, ent := fun j e he => ?_, lead := fun j e e' he he' => ?_ }
  · by_cases e : k = i
    · subst e
      rw [List.getElem?_set_self hkl]
      constructor
      · intro e; injection e with e; omega
      · intro hd; have := (h.two k).2 hd; rw [hk] at this; injection this with this; omega
    · rw [List.getElem?_set_ne e]; exact h.two i
  · rw [List.map_append, List.mem_append]
    by_cases e : k = i
    · subst e
      rw [List.getElem?_set_self hkl]
      simp
    · rw [List.getElem?_set_ne e, h.one i]
      constructor
      · exact .inl
      · rintro (h | h)
        · exact h
        · simp at h; exact absurd h.symm e
  · by_cases e : k = i
    · subst e
      rw [List.getElem?_set_self hkl] at hv
      injection hv with hv
      omega
    · rw [List.getElem?_set_ne e] at hv
      exact h.vals i v hv
  · rw [List.map_append, List.nodup_append]
    refine ⟨h.nod, by simp, fun a ha b hb e => ?_⟩
    simp at hb
    subst hb
    subst e
    exact hn ha
  · by_cases hj : j < S.length
    · rw [List.getElem?_append_left hj] at he
      obtain ⟨proc, h1, h2⟩ := h.ent j e he
      refine ⟨proc, h1, fun x hx => ?_⟩
      rcases h2 x hx with h3 | ⟨e', h3, h4⟩
      · exact .inl h3
      · exact .inr ⟨e', by rw [List.getElem?_append_left (List.getElem?_eq_some_iff.1 h3).1]; exact h3, h4⟩
    · rw [List.getElem?_append_right (by omega)] at he
      have h0 : j - S.length = 0 := by
        have := (List.getElem?_eq_some_iff.1 he).1
        simp at this
        omega
      rw [h0] at he
      simp at he
      subst he
      exact ⟨[], by simp, by simp⟩
  · by_cases hj : j + 1 < S.length
    · rw [List.getElem?_append_left (by omega)] at he
      rw [List.getElem?_append_left hj] at he'
      exact h.lead j e e' he he'
    · have hjj : j + 1 = S.length := by
        have := (List.getElem?_eq_some_iff.1 he').1
        simp at this
        omega
      rw [List.getElem?_append_left (by omega)] at he
      rw [List.getElem?_append_right (by omega), hjj, Nat.sub_self] at he'
      simp at he'
      subst he'
      exact hl e (by rw [← hjj]; simpa using he)
/-- what is left of the last one is shortened by one that is done, or opened next -/
theorem RInv.fresh {r : RowD} {st : List Int} {S : Stk} {D : List Nat} {t k : Nat} {rest : List Int} (h : RInv r st (S ++ [(t, rest ++ [(k : Int)])]) D) (hk : st[k]? = some 0)
    : RInv r (st.set k 1) (S ++ [(t, rest)] ++ [(k, edges r k)]) D := by
  have hm : (S ++ [(t, rest)]).map (·.1) = (S ++ [(t, rest ++ [(k : Int)])]).map (·.1) := by simp
  have hkt : (k : Int) ∈ edges r t := by
    have e1 : (S ++ [(t, rest ++ [(k : Int)])])[S.length]? = some (t, rest ++ [(k : Int)]) := by simp
    obtain ⟨proc, h1, h2⟩ := h.ent _ _ e1
    rw [h1]; simp
  have h' := h.open hk (fun e he => by
    have : (S ++ [(t, rest ++ [(k : Int)])]).length - 1 = S.length := by simp
    rw [this] at he
    simp at he
    subst he
    exact hkt)
  refine { len := h'.len, done := h'.done, two := h'.two, one := fun i => ?_, vals := h'.vals, nod := ?_, ent := fun j e he => ?_, lead := fun j e e' he he' => ?_ }
  · rw [h'.one i]; simp
  · have := h'.nod; simpa using this
  · by_cases hj : j < S.length
    · have e1 : (S ++ [(t, rest ++ [(k : Int)])] ++ [(k, edges r k)])[j]? = some e := by
        rw [List.append_assoc, List.getElem?_append_left hj]
        rw [List.append_assoc, List.getElem?_append_left hj] at he
        exact he
      obtain ⟨proc, h1, h2⟩ := h'.ent j e e1
      refine ⟨proc, h1, fun x hx => ?_⟩
      rcases h2 x hx with h3 | ⟨e', h3, h4⟩
      · exact .inl h3
      · right
        by_cases hj1 : j + 1 < S.length
        · refine ⟨e', ?_, h4⟩
          rw [List.append_assoc, List.getElem?_append_left hj1] at h3 ⊢
          exact h3
        · have hjj : j + 1 = S.length := by omega
          rw [List.append_assoc, List.getElem?_append_right (by omega), hjj, Nat.sub_self] at h3
          simp at h3
          subst h3
          refine ⟨(t, rest), ?_, h4⟩
          rw [List.append_assoc, List.getElem?_append_right (by omega), hjj, Nat.sub_self]
          simp
    · by_cases hj2 : j = S.length
      · subst hj2
        rw [List.append_assoc, List.getElem?_append_right (Nat.le_refl _), Nat.sub_self] at he
        simp at he
        subst he
        have e1 : (S ++ [(t, rest ++ [(k : Int)])])[S.length]? = some (t, rest ++ [(k : Int)]) := by simp
        obtain ⟨proc, h1, h2⟩ := h.ent _ _ e1
        refine ⟨(k : Int) :: proc, by rw [h1]; simp, fun x hx => ?_⟩
        rcases List.mem_cons.1 hx with hx | hx
        · right
          refine ⟨(k, edges r k), ?_, hx⟩
          rw [List.append_assoc, List.getElem?_append_right (by omega)]
          simp
        · rcases h2 x hx with h3 | ⟨e', h3, h4⟩
          · exact .inl h3
          · simp at h3
      · have hj3 : j = S.length + 1 := by
          have := (List.getElem?_eq_some_iff.1 he).1
          simp at this
          omega
        subst hj3
        rw [List.append_assoc, List.getElem?_append_right (by omega)] at he
        simp at he
        subst he
        exact ⟨[], by simp, by simp⟩
  · have m1 : (S ++ [(t, rest)] ++ [(k, edges r k)]).map (·.1) = (S ++ [(t, rest ++ [(k : Int)])] ++ [(k, edges r k)]).map (·.1) := by simp
    have q : ∀ (j : Nat) e, (S ++ [(t, rest)] ++ [(k, edges r k)])[j]? = some e → ∃ e2, (S ++ [(t, rest ++ [(k : Int)])] ++ [(k, edges r k)])[j]? = some e2 ∧ e2.1 = e.1 := by
      intro j e he
      have h1 : ((S ++ [(t, rest)] ++ [(k, edges r k)]).map (·.1))[j]? = some e.1 := by rw [List.getElem?_map, he]; rfl
      rw [m1, List.getElem?_map, Option.map_eq_some_iff] at h1
      exact h1
    obtain ⟨e2, a1, a2⟩ := q j e he
    obtain ⟨e3, a3, a4⟩ := q (j + 1) e' he'
    have := h'.lead j e2 e3 a1 a3
    rwa [a2, a4] at this
theorem RInv.skip {r : RowD} {st : List Int} {S : Stk} {D : List Nat} {t k : Nat} {rest : List Int} (h : RInv r st (S ++ [(t, rest ++ [(k : Int)])]) D) (hk : st[k]? = some 2)
    : RInv r st (S ++ [(t, rest)]) D := by
  refine { len := h.len, done := h.done, two := h.two, one := fun i => ?_, vals := h.vals, nod := ?_, ent := fun j e he => ?_, lead := fun j e e' he he' => ?_ }
  · rw [h.one i]; simp
  · have := h.nod; simpa using this
  · by_cases hj : j < S.length
    · have e1 : (S ++ [(t, rest ++ [(k : Int)])])[j]? = some e := by
        rw [List.getElem?_append_left hj] at he ⊢
        exact he
      obtain ⟨proc, h1, h2⟩ := h.ent j e e1
      refine ⟨proc, h1, fun x hx => ?_⟩
      rcases h2 x hx with h3 | ⟨e', h3, h4⟩
      · exact .inl h3
      · right
        by_cases hj1 : j + 1 < S.length
        · refine ⟨e', ?_, h4⟩
          rw [List.getElem?_append_left hj1] at h3 ⊢
          exact h3
        · have hjj : j + 1 = S.length := by omega
          rw [List.getElem?_append_right (by omega), hjj, Nat.sub_self] at h3
          simp at h3
          subst h3
          refine ⟨(t, rest), ?_, h4⟩
          rw [List.getElem?_append_right (by omega), hjj, Nat.sub_self]
          simp
    · have hj2 : j = S.length := by
        have := (List.getElem?_eq_some_iff.1 he).1
        simp at this
        omega
      subst hj2
      rw [List.getElem?_append_right (Nat.le_refl _), Nat.sub_self] at he
      simp at he
      subst he
      have e1 : (S ++ [(t, rest ++ [(k : Int)])])[S.length]? = some (t, rest ++ [(k : Int)]) := by simp
      obtain ⟨proc, h1, h2⟩ := h.ent _ _ e1
      refine ⟨(k : Int) :: proc, by rw [h1]; simp, fun x hx => ?_⟩
      rcases List.mem_cons.1 hx with hx | hx
      · exact .inl ⟨k, hx, (h.two k).1 hk⟩
      · rcases h2 x hx with h3 | ⟨e', h3, h4⟩
        · exact .inl h3
        · simp at h3
  · have m1 : (S ++ [(t, rest)]).map (·.1) = (S ++ [(t, rest ++ [(k : Int)])]).map (·.1) := by simp
    have q : ∀ (j : Nat) e, (S ++ [(t, rest)])[j]? = some e → ∃ e2, (S ++ [(t, rest ++ [(k : Int)])])[j]? = some e2 ∧ e2.1 = e.1 := by
      intro j e he
      have h1 : ((S ++ [(t, rest)]).map (·.1))[j]? = some e.1 := by rw [List.getElem?_map, he]; rfl
      rw [m1, List.getElem?_map, Option.map_eq_some_iff] at h1
      exact h1
    obtain ⟨e2, a1, a2⟩ := q j e he
    obtain ⟨e3, a3, a4⟩ := q (j + 1) e' he'
    have := h.lead j e2 e3 a1 a3
    rwa [a2, a4] at this
/-- the last one is done -/
theorem RInv.pop {r : RowD} {st : List Int} {S : Stk} {D : List Nat} {t : Nat} (h : RInv r st (S ++ [(t, [])]) D) : RInv r (st.set t 2) S (D ++ [t]) := by
  have ht1 : st[t]? = some 1 := (h.one t).2 (by simp)
  have htl := (List.getElem?_eq_some_iff.1 ht1).1
  have hnod := h.nod
  rw [List.map_append, List.nodup_append] at hnod
  have htS : t ∉ S.map (·.1) := fun hin => hnod.2.2 t hin t (by simp) rfl
  have hdone : DoneL r (D ++ [t]) := by
    refine h.done.push fun k hk => ?_
    have e1 : (S ++ [(t, ([] : List Int))])[S.length]? = some (t, []) := by simp
    obtain ⟨proc, h1, h2⟩ := h.ent _ _ e1
    simp only [List.nil_append] at h1
    rw [h1] at hk
    rcases h2 _ hk with ⟨k', e, hd⟩ | ⟨e', h3, _⟩
    · have : k = k' := by omega
      rw [this]; exact hd
    · simp at h3
  refine { len := by simp [h.len], done := hdone, two := fun i => ?_, one := fun i => ?_, vals := fun i v hv => ?_, nod := hnod.1, ent := fun j e he => ?_, lead := fun j e e' he he' => ?_ }
  · rw [List.mem_append]
    by_cases e : t = i
    · subst e
      rw [List.getElem?_set_self htl]
      simp
    · rw [List.getElem?_set_ne e, h.two i]
      constructor
      · exact .inl
      · rintro (h | h)
        · exact h
        · simp at h; exact absurd h.symm e
  · by_cases e : t = i
    · subst e
      rw [List.getElem?_set_self htl]
      constructor
      · intro e; injection e with e; omega
      · intro hin; exact absurd hin htS
    · rw [List.getElem?_set_ne e, h.one i, List.map_append, List.mem_append]
      constructor
      · rintro (h | h)
        · exact h
        · simp at h; exact absurd h.symm e
      · exact .inl
  · by_cases e : t = i
    · subst e
      rw [List.getElem?_set_self htl] at hv
      injection hv with hv
      omega
    · rw [List.getElem?_set_ne e] at hv
      exact h.vals i v hv
  · have hj : j < S.length := (List.getElem?_eq_some_iff.1 he).1
    have e1 : (S ++ [(t, ([] : List Int))])[j]? = some e := by rw [List.getElem?_append_left hj]; exact he
    obtain ⟨proc, h1, h2⟩ := h.ent j e e1
    refine ⟨proc, h1, fun x hx => ?_⟩
    rcases h2 x hx with ⟨k, h3, h4⟩ | ⟨e', h3, h4⟩
    · exact .inl ⟨k, h3, by simp [h4]⟩
    · by_cases hj1 : j + 1 < S.length
      · rw [List.getElem?_append_left hj1] at h3
        exact .inr ⟨e', h3, h4⟩
      · have hjj : j + 1 = S.length := by omega
        rw [List.getElem?_append_right (by omega), hjj, Nat.sub_self] at h3
        simp at h3
        subst h3
        exact .inl ⟨t, h4, by simp⟩
  · refine h.lead j e e' ?_ ?_
    · rw [List.getElem?_append_left (List.getElem?_eq_some_iff.1 he).1]; exact he
    · rw [List.getElem?_append_left (List.getElem?_eq_some_iff.1 he').1]; exact he'
/-- each open one leads to the next: a way back closes a circle -/
theorem RInv.circle {r : RowD} {st : List Int} {S : Stk} {D : List Nat} {t k : Nat} {rest : List Int} (h : RInv r st (S ++ [(t, rest ++ [(k : Int)])]) D) (hk : st[k]? = some 1) : ¬ Ranked r := by
  have hin := (h.one k).1 hk
  obtain ⟨p, hp⟩ := List.mem_iff_getElem?.1 hin
  rw [List.getElem?_map, Option.map_eq_some_iff] at hp
  obtain ⟨ep, hp1, hp2⟩ := hp
  refine not_ranked (S := fun i => ∃ j e, p ≤ j ∧ (S ++ [(t, rest ++ [(k : Int)])])[j]? = some e ∧ e.1 = i) ⟨k, p, ep, Nat.le_refl _, hp1, hp2⟩ ?_
  rintro i ⟨j, e, hj, he, rfl⟩
  by_cases hl : j + 1 < (S ++ [(t, rest ++ [(k : Int)])]).length
  · have he' := List.getElem?_eq_getElem hl
    exact ⟨_, h.lead j e _ he he', j + 1, _, by omega, he', rfl⟩
  · have hjl : j = S.length := by
      have := (List.getElem?_eq_some_iff.1 he).1
      simp at this hl
      omega
    subst hjl
    obtain ⟨proc, h1, h2⟩ := h.ent _ _ he
    simp at he
    subst he
    exact ⟨k, by rw [h1]; simp, p, ep, Nat.le_refl _, hp1, hp2⟩
end Go.Bk.Liv
