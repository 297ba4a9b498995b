/-
  Moves, in plain words: lists of (to, from); rings; removing a move that is on no ring.
  Conditions: none.
-/
namespace Go.Bk.Mov

theorem len_le_of_sub {α : Type} [DecidableEq α] : ∀ (xs ys : List α), xs.Nodup → (∀ x, x ∈ xs → x ∈ ys) → xs.length ≤ ys.length
  | [], _, _, _ => by simp
  | x :: xs, ys, hn, hs => by
    have hx : x ∈ ys := hs x (by simp)
    have hn' := List.nodup_cons.1 hn
    have := len_le_of_sub xs (ys.erase x) hn'.2 (fun y hy => by
      have hne : y ≠ x := fun e => hn'.1 (e ▸ hy)
      exact (List.mem_erase_of_ne hne).2 (hs y (by simp [hy])))
    have hl := List.length_erase_of_mem hx
    have hp : 0 < ys.length := List.length_pos_of_mem hx
    simp
    omega

theorem perm_of_sub {α : Type} [DecidableEq α] : ∀ (xs ys : List α), xs.Nodup → (∀ x, x ∈ xs → x ∈ ys) → ys.length ≤ xs.length → xs.Perm ys
  | [], ys, _, _, hl => by
    have : ys = [] := List.eq_nil_of_length_eq_zero (by simpa using hl)
    subst this
    exact List.Perm.refl _
  | x :: xs, ys, hn, hs, hl => by
    have hx : x ∈ ys := hs x (by simp)
    have hn' := List.nodup_cons.1 hn
    have h1 := perm_of_sub xs (ys.erase x) hn'.2 (fun y hy => by
      have hne : y ≠ x := fun e => hn'.1 (e ▸ hy)
      exact (List.mem_erase_of_ne hne).2 (hs y (by simp [hy]))) (by
      have := List.length_erase_of_mem hx
      simp at hl
      omega)
    exact (h1.cons x).trans (List.perm_cons_erase hx).symm

/-- moves, the places that they are to -/
abbrev Mv := Int × Int
def tos (G : List Mv) : List Int := G.map (·.1)
def froms (G : List Mv) : List Int := G.map (·.2)
/-- no two to one place -/
def Fn (G : List Mv) : Prop := (tos G).Nodup

theorem mem_tos {G : List Mv} {t f : Int} (h : (t, f) ∈ G) : t ∈ tos G := List.mem_map.2 ⟨_, h, rfl⟩
theorem mem_froms {G : List Mv} {t f : Int} (h : (t, f) ∈ G) : f ∈ froms G := List.mem_map.2 ⟨_, h, rfl⟩
theorem of_tos {G : List Mv} {t : Int} (h : t ∈ tos G) : ∃ f, (t, f) ∈ G := by
  obtain ⟨⟨a, b⟩, h1, rfl⟩ := List.mem_map.1 h
  exact ⟨b, h1⟩
theorem of_froms {G : List Mv} {f : Int} (h : f ∈ froms G) : ∃ t, (t, f) ∈ G := by
  obtain ⟨⟨a, b⟩, h1, rfl⟩ := List.mem_map.1 h
  exact ⟨a, h1⟩
theorem Fn.one : ∀ {G : List Mv} {t f g : Int}, Fn G → (t, f) ∈ G → (t, g) ∈ G → f = g
  | [], _, _, _, _, h, _ => by simp at h
  | (a, b) :: G, t, f, g, hn, h1, h2 => by
    have hn' : a ∉ tos G ∧ (tos G).Nodup := List.nodup_cons.1 hn
    rcases List.mem_cons.1 h1 with e1 | h1
    · rcases List.mem_cons.1 h2 with e2 | h2
      · simp only [Prod.mk.injEq] at e1 e2
        exact e1.2.trans e2.2.symm
      · simp only [Prod.mk.injEq] at e1
        exact absurd (e1.1 ▸ mem_tos h2) hn'.1
    · rcases List.mem_cons.1 h2 with e2 | h2
      · simp only [Prod.mk.injEq] at e2
        exact absurd (e2.1 ▸ mem_tos h1) hn'.1
      · exact Fn.one hn'.2 h1 h2

/-- without the move to a place -/
def del (G : List Mv) (t : Int) : List Mv := G.filter fun p => p.1 != t
theorem mem_del {G : List Mv} {t : Int} {p : Mv} : p ∈ del G t ↔ p ∈ G ∧ p.1 ≠ t := by simp [del]
theorem tos_del (G : List Mv) (t : Int) : tos (del G t) = (tos G).filter fun p => p != t := by
  induction G with
  | nil => rfl
  | cons p G ih =>
    simp only [tos, del, List.filter_cons, List.map_cons] at ih ⊢
    by_cases h : p.1 = t <;> simp [h] <;> simpa using ih
theorem Fn.del {G : List Mv} (h : Fn G) (t : Int) : Fn (del G t) := by
  unfold Fn
  rw [tos_del]
  exact List.Pairwise.filter _ h
theorem del_len : ∀ {G : List Mv} {t f : Int}, Fn G → (t, f) ∈ G → (del G t).length + 1 = G.length
  | [], _, _, _, h => by simp at h
  | (a, b) :: G, t, f, hn, h => by
    have hn' : a ∉ tos G ∧ (tos G).Nodup := List.nodup_cons.1 hn
    by_cases e : a = t
    · subst e
      have hd : del G a = G := by
        unfold del
        rw [List.filter_eq_self]
        intro p hp
        have : p.1 ≠ a := fun e => hn'.1 (e ▸ List.mem_map.2 ⟨p, hp, rfl⟩)
        simpa using this
      have : del ((a, b) :: G) a = del G a := by simp [del]
      rw [this, hd]
      simp
    · have h1 : (t, f) ∈ G := by
        rcases List.mem_cons.1 h with e1 | h1
        · simp only [Prod.mk.injEq] at e1
          exact absurd e1.1.symm e
        · exact h1
      have ih := del_len hn'.2 h1
      have : del ((a, b) :: G) t = (a, b) :: del G t := by simp [del, e]
      rw [this]
      simp
      omega

/-- from one place along the moves to another, in one step or more -/
inductive Reach (G : List Mv) : Int → Int → Prop
  | one {a b : Int} : (a, b) ∈ G → Reach G a b
  | step {a b c : Int} : (a, b) ∈ G → Reach G b c → Reach G a c

theorem Reach.snoc {G : List Mv} {a b c : Int} (h : Reach G a b) (k : (b, c) ∈ G) : Reach G a c := by
  induction h with
  | one h => exact .step h (.one k)
  | step h _ ih => exact .step h (ih k)
theorem Reach.trans {G : List Mv} {a b c : Int} (h : Reach G a b) (k : Reach G b c) : Reach G a c := by
  induction h with
  | one h => exact .step h k
  | step h _ ih => exact .step h (ih k)
theorem Reach.key {G : List Mv} {a b : Int} (h : Reach G a b) : ∃ c, (a, c) ∈ G := by
  cases h with
  | one h => exact ⟨_, h⟩
  | step h _ => exact ⟨_, h⟩
theorem Reach.last {G : List Mv} {a b : Int} (h : Reach G a b) : ∃ c, (c, b) ∈ G := by
  induction h with
  | one h => exact ⟨_, h⟩
  | step _ _ ih => exact ih
theorem Reach.mono {G G' : List Mv} (hs : ∀ p, p ∈ G' → p ∈ G) {a b : Int} (h : Reach G' a b) : Reach G a b := by
  induction h with
  | one h => exact .one (hs _ h)
  | step h _ ih => exact .step (hs _ h) ih
theorem Reach.succ {G : List Mv} (hf : Fn G) {x y z : Int} (h : Reach G x z) (k : (x, y) ∈ G) : y = z ∨ Reach G y z := by
  cases h with
  | one h => exact .inl (hf.one k h)
  | step h r => exact .inr (hf.one h k ▸ r)
theorem Reach.cyc_succ {G : List Mv} (hf : Fn G) {x y : Int} (h : Reach G x x) (k : (x, y) ∈ G) : Reach G y y := by
  rcases h.succ hf k with e | r
  · subst e; exact h
  · exact r.snoc k
theorem Reach.cyc_up {G G' : List Mv} (hf : Fn G) (hf' : Fn G') (hs : ∀ p, p ∈ G' → p ∈ G) {x y : Int} (h : Reach G x y) : Reach G' x x → Reach G' x y := by
  induction h with
  | one h =>
    intro k
    obtain ⟨c, hc⟩ := k.key
    rw [hf.one h (hs _ hc)]
    exact .one hc
  | step h _ ih =>
    intro k
    obtain ⟨c, hc⟩ := k.key
    have e := hf.one h (hs _ hc)
    subst e
    exact .step hc (ih (k.cyc_succ hf' hc))
theorem Reach.back {G : List Mv} (hf : Fn G) {x y : Int} (h : Reach G x y) : Reach G x x → Reach G y x := by
  intro k
  have h2 : ∀ {a b : Int}, Reach G a b → Reach G a a → Reach G b b ∧ (b = a ∨ Reach G b a) := by
    intro a b hab
    induction hab with
    | one h =>
      intro k
      refine ⟨k.cyc_succ hf h, ?_⟩
      exact k.succ hf h
    | step h r ih =>
      intro k
      have kb := k.cyc_succ hf h
      obtain ⟨h1, h2⟩ := ih kb
      refine ⟨h1, ?_⟩
      rcases k.succ hf h with e | rb
      · subst e; exact h2
      · rcases h2 with e | h2
        · subst e; exact .inr rb
        · exact .inr (h2.trans rb)
  rcases (h2 h k).2 with e | r
  · subst e; exact k
  · exact r
theorem Reach.stuck {G : List Mv} (hf : Fn G) {t x : Int} (ht : (t, t) ∈ G) (h : Reach G t x) : x = t := by
  generalize e : t = a at h
  induction h with
  | one h => subst e; exact hf.one h ht
  | step h _ ih =>
    subst e
    have e' := hf.one h ht
    subst e'
    exact ih rfl

/-- a ring's least place -/
def MinC (G : List Mv) (t : Int) : Prop := Reach G t t ∧ (t, t) ∉ G ∧ ∀ x, Reach G t x → t ≤ x
/-- so many rings -/
def RC (G : List Mv) (n : Nat) : Prop := ∃ S : List Int, S.Nodup ∧ (∀ t, t ∈ S ↔ MinC G t) ∧ S.length = n
theorem RC.one {G : List Mv} {n m : Nat} (h : RC G n) (k : RC G m) : n = m := by
  obtain ⟨S, h1, h2, rfl⟩ := h
  obtain ⟨T, k1, k2, rfl⟩ := k
  exact Nat.le_antisymm (len_le_of_sub S T h1 fun x hx => (k2 x).2 ((h2 x).1 hx)) (len_le_of_sub T S k1 fun x hx => (h2 x).2 ((k2 x).1 hx))
theorem RC.congr {G G' : List Mv} {n : Nat} (h : RC G n) (e : ∀ t, MinC G t ↔ MinC G' t) : RC G' n := by
  obtain ⟨S, h1, h2, rfl⟩ := h
  exact ⟨S, h1, fun t => (h2 t).trans (e t), rfl⟩

/-- without a move on no ring there are the same rings -/
theorem minC_del {G : List Mv} (hf : Fn G) {t : Int} (ht : Reach G t t → (t, t) ∈ G) (x : Int) : MinC (del G t) x ↔ MinC G x := by
  have hs : ∀ p, p ∈ del G t → p ∈ G := fun p hp => (mem_del.1 hp).1
  have key : ∀ {a b : Int}, Reach G a b → Reach G a a → (a, a) ∉ G → Reach (del G t) a b := by
    intro a b h
    induction h with
    | @one a b h =>
      intro k1 k2
      exact .one (mem_del.2 ⟨h, fun e => by simp at e; subst e; exact k2 (ht k1)⟩)
    | @step a b c h r ih =>
      intro k1 k2
      have hne : a ≠ t := fun e => by subst e; exact k2 (ht k1)
      refine .step (mem_del.2 ⟨h, hne⟩) (ih (k1.cyc_succ hf h) fun hbb => ?_)
      rcases k1.succ hf h with e | rb
      · subst e; exact k2 hbb
      · have := Reach.stuck hf hbb rb
        subst this
        exact k2 h
  constructor
  · rintro ⟨h1, h2, h3⟩
    refine ⟨h1.mono hs, fun h => ?_, fun y hy => h3 y (hy.cyc_up hf (hf.del t) hs h1)⟩
    obtain ⟨c, hc⟩ := h1.key
    have e := hf.one (hs _ hc) h
    subst e
    exact h2 hc
  · rintro ⟨h1, h2, h3⟩
    exact ⟨key h1 h1 h2, fun h => h2 (hs _ h), fun y hy => h3 y (hy.mono hs)⟩
end Go.Bk.Mov
