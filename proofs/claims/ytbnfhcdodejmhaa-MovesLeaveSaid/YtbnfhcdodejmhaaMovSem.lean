/-
  Moves, in plain words: lists of numbers, and what moves leave in them.
  Conditions: none.
-/
import Derived.Test.YtbnfhcdodejmhaaMovDo
namespace Go.Bk.Mov

def Agree (m : Nat) (env : Int → Nat) (h : List Nat) : Prop := h.length = m ∧ ∀ q : Nat, q < m → h.getD q 0 = env q
theorem getD_set (h : List Nat) (i v q : Nat) (hi : i < h.length) : (h.set i v).getD q 0 = if q = i then v else h.getD q 0 := by
  simp only [List.getD, List.getElem?_set]
  by_cases e : i = q
  · subst e; simp [hi]
  · have e' : ¬ q = i := fun h => e h.symm
    simp [e, e']
theorem Agree.do1 {m : Nat} {env : Int → Nat} {h : List Nat} (ha : Agree m env h) {p : Mv} (hp : inR m p = true) : Agree m (upd1 env p.1 (env p.2)) (do1 h p) := by
  obtain ⟨t, f⟩ := p
  have hb := of_decide_eq_true hp
  simp only at hb
  obtain ⟨tn, rfl⟩ := Int.eq_ofNat_of_zero_le hb.1
  obtain ⟨fn, rfl⟩ := Int.eq_ofNat_of_zero_le hb.2.2.1
  have e : Mov.do1 h ((tn : Int), (fn : Int)) = h.set tn (h.getD fn 0) := at1_yes (by rw [ha.1]; exact hp)
  rw [e]
  refine ⟨by simp [ha.1], fun q hq => ?_⟩
  rw [getD_set h tn _ q (by rw [ha.1]; omega), ha.2 fn (by omega)]
  by_cases eq : q = tn
  · subst eq; simp [upd1]
  · have : ¬ (q : Int) = (tn : Int) := by omega
    rw [if_neg eq, ha.2 q hq]
    simp [upd1, this]
theorem Agree.doL {m : Nat} : ∀ {k : List Mv} {env : Int → Nat} {h : List Nat}, Agree m env h → (∀ p, p ∈ k → inR m p = true) → Agree m (run1 k env) (doL k h)
  | [], _, _, ha, _ => ha
  | p :: k, env, h, ha, hp => by
    show Agree m (run1 k (upd1 env p.1 (env p.2))) (Mov.doL k (Mov.do1 h p))
    exact Agree.doL (ha.do1 (hp p (by simp))) (fun q hq => hp q (by simp [hq]))
theorem atF_get (src : List Nat) {m : Nat} : ∀ (l : List Mv) (h : List Nat), h.length = m → Fn l → (∀ p, p ∈ l → inR m p = true) → ∀ q : Nat, q < m →
    ((∀ f, ((q : Int), f) ∈ l → (l.foldl (at1 src) h).getD q 0 = src.getD f.toNat 0) ∧ ((q : Int) ∉ tos l → (l.foldl (at1 src) h).getD q 0 = h.getD q 0))
  | [], h, _, _, _, q, _ => ⟨fun f hf => by simp at hf, fun _ => rfl⟩
  | p :: l, h, hl, hf, hp, q, hq => by
    obtain ⟨t, f⟩ := p
    have hin := hp (t, f) (by simp)
    have hb := of_decide_eq_true hin
    simp only at hb
    obtain ⟨tn, rfl⟩ := Int.eq_ofNat_of_zero_le hb.1
    obtain ⟨fn, rfl⟩ := Int.eq_ofNat_of_zero_le hb.2.2.1
    have hf' : (tn : Int) ∉ tos l ∧ Fn l := List.nodup_cons.1 hf
    have e : at1 src h ((tn : Int), (fn : Int)) = h.set tn (src.getD fn 0) := at1_yes (by rw [hl]; exact hin)
    have ih := atF_get src l (h.set tn (src.getD fn 0)) (by simp [hl]) hf'.2 (fun p hp' => hp p (by simp [hp'])) q hq
    show (∀ f, _ → (l.foldl (at1 src) (at1 src h ((tn : Int), (fn : Int)))).getD q 0 = _) ∧ (_ → (l.foldl (at1 src) (at1 src h ((tn : Int), (fn : Int)))).getD q 0 = _)
    rw [e]
    constructor
    · intro g hg
      rcases List.mem_cons.1 hg with e1 | hg
      · simp only [Prod.mk.injEq] at e1
        obtain ⟨e2, e3⟩ := e1
        have eq : q = tn := by omega
        subst eq
        rw [ih.2 hf'.1, getD_set h q _ q (by rw [hl]; exact hq), e3]
        simp
      · exact ih.1 g hg
    · intro hn
      simp only [tos, List.map_cons, List.mem_cons, not_or] at hn
      rw [ih.2 hn.2, getD_set h tn _ q (by rw [hl]; omega), if_neg (by omega)]

/-- moves one behind the other leave what moves at once leave, but in the spare place -/
theorem leaves {l k : List Mv} {spare : Int} {n m : Nat} {h : List Nat} (hI : SInv l [] k spare n) (hl : Fn l) (s1 : spare ∉ tos l) (s2 : spare ∉ froms l) (hlen : h.length = m) (hin : ∀ p, p ∈ l → inR m p = true) (hsp : 0 ≤ spare ∧ spare < m) :
    ∀ q : Nat, q < m → (q : Int) ≠ spare → (doL k h).getD q 0 = (atL l h).getD q 0 := by
  have hplace : ∀ x, Okp l spare n x → 0 ≤ x ∧ x < m := fun x hx => by
    rcases hx with hx | hx | ⟨hx, _⟩
    · obtain ⟨f, hf⟩ := of_tos hx
      have := of_decide_eq_true (hin _ hf)
      simp only at this
      exact ⟨this.1, this.2.1⟩
    · obtain ⟨t, ht⟩ := of_froms hx
      have := of_decide_eq_true (hin _ ht)
      simp only at this
      exact this.2.2
    · rw [hx]; exact hsp
  have hk : ∀ p, p ∈ k → inR m p = true := fun p hp => by
    obtain ⟨h1, h2⟩ := hI.ask p hp
    have h3 := hplace _ h1
    have h4 := hplace _ h2
    exact decide_eq_true ⟨h3.1, h3.2, h4.1, h4.2⟩
  intro q hq hne
  have hag : Agree m (fun p => h.getD p.toNat 0) h := ⟨hlen, fun q _ => by simp⟩
  have h1 := (hag.doL hk).2 q hq
  obtain ⟨_, e2, e3⟩ := hI.sem s1 s2 (fun p => h.getD p.toNat 0)
  have hat := atF_get h l h hlen hl hin q hq
  rw [h1]
  by_cases ht : (q : Int) ∈ tos l
  · obtain ⟨f, hf⟩ := of_tos ht
    rw [e2 _ _ hf (by simp)]
    exact (hat.1 f hf).symm
  · rw [e3 _ ht hne]
    have := hat.2 ht
    unfold atL
    rw [this]
    simp
end Go.Bk.Mov
