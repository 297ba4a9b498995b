/-
  Moves, in plain words: following a place along the moves tells whether it is a ring's least place.
  Conditions: none.
-/
import Derived.Test.YtbnfhcdodejmhaaMovRing
namespace Go.Bk.Mov

/-- along the moves from a place: V were passed, at_ is next (-1: there is none), least is the least so far -/
structure WInv (l : List Mv) (to : Int) (f : Int) (V : List Int) (at_ least : Int) : Prop where
  atOk : at_ = -1 ∨ Reach l to at_
  fst : f ∈ V ∨ f = at_
  succ : ∀ x, x ∈ V → ∀ y, (x, y) ∈ l → y ∈ V ∨ y = at_
  reach : ∀ x, x ∈ V → Reach l to x
  nto : to ∉ V
  nodup : Reach l to to → V.Nodup
  l1 : least ≤ to
  l2 : ∀ x, x ∈ V → least ≤ x
  l3 : least = to ∨ least ∈ V

theorem WInv.start {l : List Mv} {to f : Int} (h : (to, f) ∈ l) : WInv l to f [] f to :=
  ⟨.inr (.one h), .inr rfl, by simp, by simp, by simp, fun _ => by simp, by omega, by simp, .inl rfl⟩

theorem WInv.fresh {l : List Mv} (hf : Fn l) {to f at_ least : Int} {V : List Int} (h : WInv l to f V at_ least) (hc : Reach l to to) : at_ ∉ V := by
  intro hin
  have hclo : ∀ {x y : Int}, Reach l x y → x ∈ V → y ∈ V := by
    intro x y hr
    induction hr with
    | one hm =>
      intro hx
      rcases h.succ _ hx _ hm with h1 | h1
      · exact h1
      · exact h1 ▸ hin
    | step hm _ ih =>
      intro hx
      refine ih ?_
      rcases h.succ _ hx _ hm with h1 | h1
      · exact h1
      · exact h1 ▸ hin
  exact h.nto (hclo ((h.reach _ hin).back hf hc) hin)

theorem WInv.next {l : List Mv} (hf : Fn l) {to f at_ least nx : Int} {V : List Int} (h : WInv l to f V at_ least) (h0 : 0 ≤ at_) (hne : at_ ≠ to) (hnx : (nx = -1 ∧ at_ ∉ tos l) ∨ (at_, nx) ∈ l) : WInv l to f (at_ :: V) nx (min least at_) := by
  have hr : Reach l to at_ := by
    rcases h.atOk with e | e
    · omega
    · exact e
  refine ⟨?_, .inl ?_, fun x hx y hy => ?_, fun x hx => ?_, ?_, fun hc => ?_, ?_, fun x hx => ?_, ?_⟩
  · rcases hnx with ⟨e, _⟩ | e
    · exact .inl e
    · exact .inr (hr.snoc e)
  · rcases h.fst with h1 | h1
    · simp [h1]
    · simp [h1]
  · rcases List.mem_cons.1 hx with e | hx
    · subst e
      rcases hnx with ⟨_, e⟩ | e
      · exact absurd (mem_tos hy) e
      · exact .inr (hf.one hy e)
    · rcases h.succ x hx y hy with h1 | h1
      · simp [h1]
      · simp [h1]
  · rcases List.mem_cons.1 hx with e | hx
    · exact e ▸ hr
    · exact h.reach x hx
  · simp only [List.mem_cons, not_or]
    exact ⟨fun e => hne e.symm, h.nto⟩
  · exact List.nodup_cons.2 ⟨h.fresh hf hc, h.nodup hc⟩
  · have := h.l1; omega
  · rcases List.mem_cons.1 hx with e | hx
    · omega
    · have := h.l2 x hx; omega
  · rcases h.l3 with e | e
    · by_cases hh : least ≤ at_
      · exact .inl (by omega)
      · exact .inr (by simp; omega)
    · by_cases hh : least ≤ at_
      · exact .inr (by rw [Int.min_eq_left hh]; simp [e])
      · exact .inr (by simp; omega)

theorem WInv.done {l : List Mv} (hf : Fn l) {to f at_ least : Int} {V : List Int} (h : WInv l to f V at_ least) (hm : (to, f) ∈ l) (h0 : 0 ≤ to) (hend : V.length = l.length ∨ at_ < 0 ∨ at_ = to) : (at_ = to ∧ least = to ∧ f ≠ to) ↔ MinC l to := by
  constructor
  · rintro ⟨e1, e2, hne⟩
    subst e1
    subst e2
    have hclo : ∀ {x y : Int}, Reach l x y → (x ∈ V ∨ x = least) → (y ∈ V ∨ y = least) := by
      intro x y hr
      have hs : ∀ {x y : Int}, (x, y) ∈ l → (x ∈ V ∨ x = least) → (y ∈ V ∨ y = least) := by
        intro x y hxy hx
        rcases hx with hx | hx
        · exact h.succ x hx y hxy
        · subst hx
          have := hf.one hxy hm
          subst this
          exact h.fst
      induction hr with
      | one hm => exact hs hm
      | step hm _ ih => exact fun hx => ih (hs hm hx)
    have hc : Reach l least least := by
      rcases h.atOk with e | e
      · omega
      · exact e
    refine ⟨hc, fun hh => hne (hf.one hm hh), fun x hx => ?_⟩
    rcases hclo hx (.inr rfl) with h1 | h1
    · exact h.l2 x h1
    · omega
  · rintro ⟨hc, hn, hmin⟩
    have hne : f ≠ to := fun e => hn (e ▸ hm)
    have hat : at_ = to := by
      rcases hend with he | he | he
      · exfalso
        have hnd : (to :: V).Nodup := List.nodup_cons.2 ⟨h.nto, h.nodup hc⟩
        have := len_le_of_sub (to :: V) (tos l) hnd (fun x hx => by
          rcases List.mem_cons.1 hx with e | hx
          · exact e ▸ mem_tos hm
          · obtain ⟨c, hc'⟩ := ((h.reach x hx).back hf hc).key
            exact mem_tos hc')
        simp [tos] at this
        omega
      · exfalso
        have e : at_ = -1 := by
          rcases h.atOk with e | e
          · exact e
          · obtain ⟨c, hc'⟩ := (e.back hf hc).key
            exact absurd he (by
              have : to ≤ at_ := hmin at_ e
              omega)
        have hclo : ∀ {x y : Int}, Reach l x y → x ∈ V → y ∈ V ∨ y = at_ := by
          intro x y hr
          induction hr with
          | one hm' => exact fun hx => h.succ _ hx _ hm'
          | @step a b c' hm' hr' ih =>
            intro hx
            rcases h.succ _ hx _ hm' with h1 | h1
            · exact ih h1
            · subst h1
              have : Reach l to b := (h.reach _ hx).snoc hm'
              have := hmin b this
              omega
        have hfV : f ∈ V := by
          rcases h.fst with h1 | h1
          · exact h1
          · have : to ≤ f := hmin f (.one hm)
            omega
        rcases hc.succ hf hm with e' | e'
        · exact hne e'
        · rcases hclo e' hfV with h1 | h1
          · exact h.nto h1
          · omega
      · exact he
    refine ⟨hat, ?_, hne⟩
    rcases h.l3 with e | e
    · exact e
    · have := hmin least (h.reach least e)
      have := h.l1
      omega
end Go.Bk.Mov
