/-
  Which places clash, as the document's table gathers it, in plain words.
  Conditions: none.
-/
import Derived.Test.YtkfnnmdghibjbaaLivTm
import Derived.Test.YtkfnnmdghibjbaaLivMu
namespace Go.Bk.Liv
open Go Go.Bk
set_option linter.unusedVariables false
set_option linter.unusedSimpArgs false
/-- what a table of clashes holds: nothing else, and all that is asked -/
structure RS (r : RowD) (P : Nat) (Req : Rel2) (T : Nat → Nat → Bool) : Prop where
  snd : ∀ a b : Nat, a < P → b < P → T a b = true → Clashes r a b
  req : ∀ x y : Nat, x < P → y < P → Req x y → x ≠ y → T x y = true ∧ T y x = true
def put2 (T : Nat → Nat → Bool) (a b : Nat) : Nat → Nat → Bool := if a = b then T else upd (upd T a (fun q => if q = b then true else T a q)) b (fun q => if q = a then true else T b q)
theorem put2_same (T : Nat → Nat → Bool) (a : Nat) : put2 T a a = T := by simp [put2]
theorem put2_ne {T : Nat → Nat → Bool} {a b : Nat} (h : a ≠ b) : put2 T a b = upd (upd T a (fun q => if q = b then true else T a q)) b (fun q => if q = a then true else T b q) := by simp [put2, h]
theorem put2_iff {T : Nat → Nat → Bool} {a b x y : Nat} : put2 T a b x y = true ↔ T x y = true ∨ (a ≠ b ∧ ((x = a ∧ y = b) ∨ (x = b ∧ y = a))) := by
  by_cases h : a = b
  · subst h
    rw [put2_same]
    simp
  · rw [put2_ne h]
    unfold upd
    by_cases hb : x = b
    · subst hb
      rw [if_pos rfl]
      by_cases hy : y = a
      · subst hy; simp [h]
      · rw [if_neg hy]
        simp [hy]
        intro _ h2
        exact absurd h2.symm h
    · rw [if_neg hb]
      by_cases ha : x = a
      · subst ha
        rw [if_pos rfl]
        by_cases hy : y = b
        · subst hy; simp [h]
        · rw [if_neg hy]; simp [hy, hb]
      · rw [if_neg ha]; simp [ha, hb]
theorem RS.put {r : RowD} {P a b : Nat} {Req Req' : Rel2} {T : Nat → Nat → Bool} (h : RS r P Req T) (hs : Sall r a b) (hq : ∀ x y, Req' x y → Req x y ∨ (x = (a : Int) ∧ y = (b : Int))) : RS r P Req' (put2 T a b) := by
  refine ⟨fun x y hx hy ht => ?_, fun x y hx hy hr hne => ?_⟩
  · rcases put2_iff.1 ht with ht | ⟨hn, ⟨rfl, rfl⟩ | ⟨rfl, rfl⟩⟩
    · exact h.snd x y hx hy ht
    · exact ⟨by omega, .inl hs⟩
    · exact ⟨by omega, .inr hs⟩
  · rcases hq x y hr with hr | ⟨e1, e2⟩
    · have := h.req x y hx hy hr hne
      exact ⟨put2_iff.2 (.inl this.1), put2_iff.2 (.inl this.2)⟩
    · have e1 : x = a := by omega
      have e2 : y = b := by omega
      subst e1
      subst e2
      exact ⟨put2_iff.2 (.inr ⟨hne, .inl ⟨rfl, rfl⟩⟩), put2_iff.2 (.inr ⟨hne, .inr ⟨rfl, rfl⟩⟩)⟩
theorem RS.weak {r : RowD} {P : Nat} {Req Req' : Rel2} {T : Nat → Nat → Bool} (h : RS r P Req T) (hq : ∀ x y, Req' x y → Req x y) : RS r P Req' T := ⟨h.snd, fun x y hx hy hr => h.req x y hx hy (hq _ _ hr)⟩
theorem RS.start (r : RowD) (P : Nat) {Req : Rel2} (hn : ∀ x y, ¬ Req x y) : RS r P Req (fun _ _ => false) := ⟨fun a b _ _ h => (by cases h), fun x y _ _ h => absurd h (hn _ _)⟩
theorem RS.congr {r : RowD} {P : Nat} {Req : Rel2} {T T' : Nat → Nat → Bool} (h : RS r P Req T) (he : ∀ a b, a < P → b < P → T a b = T' a b) : RS r P Req T' :=
  ⟨fun a b ha hb ht => h.snd a b ha hb (by rw [he a b ha hb]; exact ht), fun x y hx hy hr hne => by
    have := h.req x y hx hy hr hne
    rw [← he x y hx hy, ← he y x hy hx]
    exact this⟩
theorem RS.done {e : EnvD} {r : RowD} {P : Nat} {Req : Rel2} {T : Nat → Nat → Bool} (h : RS r P Req T) (hc : CheckP e r) (hq : ∀ x y, Sall r x y → Req x y) {a b : Nat} (ha : a < P) (hb : b < P) : T a b = true ↔ Clashes r a b := by
  refine ⟨h.snd a b ha hb, fun hcl => ?_⟩
  obtain ⟨hne, hs | hs⟩ := hcl
  · exact (h.req a b ha hb (hq _ _ hs) (by omega)).1
  · exact (h.req b a hb ha (hq _ _ hs) (by omega)).2
/-- with the one Out o: the first of what is live behind -/
def ReqT (r : RowD) (k : Nat) (c : CodeD) (j : Nat) (o : Int) (t : List Int) (n : Nat) : Rel2 := fun x y => ReqO r k c j x y ∨ (x = o ∧ y ∈ t.take n ∧ (c.op = 272 → ∀ a, c.args[0]? = some a → y ≠ a))
theorem reqT_start {r : RowD} {k j : Nat} {c : CodeD} {o : Int} {t : List Int} (x y : Int) (h : ReqT r k c j o t 0 x y) : ReqO r k c j x y := by
  rcases h with h | ⟨_, h2, _⟩
  · exact h
  · simp at h2
theorem reqT_skip {r : RowD} {k j n : Nat} {c : CodeD} {o p : Int} {t : List Int} (ht : t[n]? = some p) (hp : ¬ (c.op = 272 → ∀ a, c.args[0]? = some a → p ≠ a)) (x y : Int) (h : ReqT r k c j o t (n + 1) x y) : ReqT r k c j o t n x y := by
  rcases h with h | ⟨h1, h2, h3⟩
  · exact .inl h
  · rcases (take_step ht).1 h2 with h4 | h4
    · exact .inr ⟨h1, h4, h3⟩
    · subst h4; exact absurd h3 hp
theorem reqT_put {r : RowD} {k j n : Nat} {c : CodeD} {o p : Int} {t : List Int} (ht : t[n]? = some p) (x y : Int) (h : ReqT r k c j o t (n + 1) x y) : ReqT r k c j o t n x y ∨ (x = o ∧ y = p) := by
  rcases h with h | ⟨h1, h2, h3⟩
  · exact .inl (.inl h)
  · rcases (take_step ht).1 h2 with h4 | h4
    · exact .inl (.inr ⟨h1, h4, h3⟩)
    · exact .inr ⟨h1, h4⟩
theorem reqT_done {r : RowD} {k j n : Nat} {c : CodeD} {o : Int} {t : List Int} (hn : t.length ≤ n) (ht : ∀ x, x ∈ t ↔ LiveB r k x) (x y : Int) (h : ReqZ r k c j o 0 x y) : ReqT r k c j o t n x y := by
  rcases h with h | ⟨h1, ⟨h2, h3⟩ | h2⟩
  · exact .inl h
  · exact .inr ⟨h1, (take_all hn).2 ((ht y).2 h2), h3⟩
  · simp at h2
def ReqU (r : RowD) (k : Nat) (a : Int) (u : List Int) (n : Nat) : Rel2 := fun x y => ReqP r k x y ∨ (x = a ∧ (y ∈ r.params ∨ y ∈ u.take n))
theorem reqU_start {r : RowD} {k j : Nat} {a : Int} {u : List Int} (hj : r.params.length ≤ j) (x y : Int) (h : ReqU r k a u 0 x y) : ReqQ r k a j x y := by
  rcases h with h | ⟨h1, h2 | h2⟩
  · exact .inl h
  · exact .inr ⟨h1, (take_all hj).2 h2⟩
  · simp at h2
theorem reqU_put {r : RowD} {k n : Nat} {a p : Int} {u : List Int} (hu : u[n]? = some p) (x y : Int) (h : ReqU r k a u (n + 1) x y) : ReqU r k a u n x y ∨ (x = a ∧ y = p) := by
  rcases h with h | ⟨h1, h2 | h2⟩
  · exact .inl (.inl h)
  · exact .inl (.inr ⟨h1, .inl h2⟩)
  · rcases (take_step hu).1 h2 with h3 | h3
    · exact .inl (.inr ⟨h1, .inr h3⟩)
    · exact .inr ⟨h1, h3⟩
theorem reqU_done {r : RowD} {k n : Nat} {a : Int} {u : List Int} (hk : r.params[k]? = some a) (hn : u.length ≤ n) (hu : ∀ x, x ∈ u ↔ Live r 0 x) (x y : Int) (h : ReqP r (k + 1) x y) : ReqU r k a u n x y := by
  rcases h with h | ⟨h1, h2⟩
  · exact .inl (.inl h)
  · rcases (take_step hk).1 h1 with h3 | h3
    · exact .inl (.inr ⟨h3, h2⟩)
    · rcases h2 with h2 | h2
      · exact .inr ⟨h3, .inl h2⟩
      · exact .inr ⟨h3, .inr ((take_all hn).2 ((hu y).2 h2))⟩
end Go.Bk.Liv
