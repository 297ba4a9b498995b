/-
  The law's alive: what is live in the small row, and that its places do not clash.
  Conditions: none.
-/
import Derived.Test.YtgmapikcpnffhaaGreatLivLs
namespace Go.Proofs.YtgmapikcpnffhaaGreat
open Go.RowKit Go.Bk Go.Bk.Liv
set_option linter.unusedVariables false
set_option linter.unusedSimpArgs false
def noE : EnvD := ⟨[], 0, [], [], false⟩
theorem noE_v (w : World) : EnvV w (.agg #[.slice none 0 0, .int .i64 0, .slice none 0 0, .slice none 0 0, .bool false]) noE :=
  ⟨_, _, _, rfl, ⟨none, 0, [], rfl, Nat.le_refl _, fun _ => rfl, by simp [noE], rfl, by simp, fun i r x h => by simp at h, Src.nil _ _⟩, Ints.nil _, ⟨none, 0, rfl, Src.nil _ _, Nat.le_refl _, fun _ => rfl, by simp [noE]⟩⟩
theorem next_small {i : Nat} {c : CodeD} (h : smallD.code[i]? = some c) {x : Int} (hx : x ∈ nextOf c i) : x = (i : Int) + 1 ∧ i < 3 := by
  match i, h with
  | 0, h => injection h with h; subst h; simp [nextOf] at hx; exact ⟨hx, by omega⟩
  | 1, h => injection h with h; subst h; simp [nextOf] at hx; exact ⟨by omega, by omega⟩
  | 2, h => injection h with h; subst h; simp [nextOf] at hx; exact ⟨by omega, by omega⟩
  | 3, h => injection h with h; subst h; simp [nextOf] at hx
  | n + 4, h => simp [smallD] at h
theorem small_ok : CheckP noE smallD where
  env := by decide
  sig := by decide
  n1 := by decide
  n2 := by decide
  p1 := by decide
  p2 := by decide
  par := rfl
  pin := rfl
  pun := by simp [smallD]
  code c hc := by
    simp only [smallD, List.mem_cons, List.not_mem_nil, or_false] at hc
    rcases hc with rfl | rfl | rfl | rfl <;> rfl
  first c hc := by injection hc with hc; subst hc; rfl
  last c hc := by injection hc with hc; subst hc; decide
  rank := ⟨fun i => 4 - i, fun i c k hc _ hk => by
    obtain ⟨h1, h2⟩ := next_small hc hk
    show 4 - k < 4 - i
    omega⟩
def lA : List (List Int) := [[], [], [0], [1]]
def lB : List (List Int) := [[], [0], [1], []]
theorem live2 : Live smallD 2 0 := .arg (c := ⟨106, 0, [0, 0], [1], []⟩) rfl (by simp)
theorem live3 : Live smallD 3 1 := .arg (c := ⟨276, 0, [1], [], []⟩) rfl (by simp)
theorem small_snd : Snd smallD lA lB where
  lA := rfl
  lB := rfl
  nA s hs := by
    simp only [lA, List.mem_cons, List.not_mem_nil, or_false] at hs
    rcases hs with rfl | rfl | rfl | rfl <;> simp
  nB s hs := by
    simp only [lB, List.mem_cons, List.not_mem_nil, or_false] at hs
    rcases hs with rfl | rfl | rfl | rfl <;> simp
  sA i s x hi hx := by
    match i, hi with
    | 0, hi => injection hi with hi; subst hi; simp at hx
    | 1, hi => injection hi with hi; subst hi; simp at hx
    | 2, hi => injection hi with hi; subst hi; simp at hx; subst hx; exact live2
    | 3, hi => injection hi with hi; subst hi; simp at hx; subst hx; exact live3
    | n + 4, hi => simp [lA] at hi
  sB i s x hi hx := by
    match i, hi with
    | 0, hi => injection hi with hi; subst hi; simp at hx
    | 1, hi => injection hi with hi; subst hi; simp at hx; subst hx; exact ⟨⟨256, 1, [], [0], []⟩, rfl, 2, by simp [nextOf], live2⟩
    | 2, hi => injection hi with hi; subst hi; simp at hx; subst hx; exact ⟨⟨106, 0, [0, 0], [1], []⟩, rfl, 3, by simp [nextOf], live3⟩
    | 3, hi => injection hi with hi; subst hi; simp at hx
    | n + 4, hi => simp [lB] at hi
theorem small_stab (i : Nat) (hi : i < 4) : Stab smallD lA lB i := by
  intro c s t hc hs ht
  have hn := fun (k : Nat) (hk : (k : Int) ∈ nextOf c i) => next_small hc hk
  match i, hi, hc, hs, ht with
  | 0, _, hc, hs, ht =>
    injection hc with hc; injection hs with hs; injection ht with ht; subst hc; subst hs; subst ht
    refine ⟨by simp, fun k hk u hu x hx => ?_⟩
    have : k = 1 := by have := (hn k hk).1; omega
    subst this
    injection hu with hu; subst hu; simp at hx
  | 1, _, hc, hs, ht =>
    injection hc with hc; injection hs with hs; injection ht with ht; subst hc; subst hs; subst ht
    refine ⟨by simp, fun k hk u hu x hx => ?_⟩
    have : k = 2 := by have := (hn k hk).1; omega
    subst this
    injection hu with hu; subst hu; simp at hx; subst hx; simp
  | 2, _, hc, hs, ht =>
    injection hc with hc; injection hs with hs; injection ht with ht; subst hc; subst hs; subst ht
    refine ⟨by simp, fun k hk u hu x hx => ?_⟩
    have : k = 3 := by have := (hn k hk).1; omega
    subst this
    injection hu with hu; subst hu; simp at hx; subst hx; simp
  | 3, _, hc, hs, ht =>
    injection hc with hc; injection hs with hs; injection ht with ht; subst hc; subst hs; subst ht
    refine ⟨by simp, fun k hk u hu x hx => ?_⟩
    have := (hn k hk).2
    omega
theorem small_all : (∀ (i : Nat) s x, lA[i]? = some s → (x ∈ s ↔ Live smallD i x)) ∧ (∀ (i : Nat) s x, lB[i]? = some s → (x ∈ s ↔ LiveB smallD i x)) := all_stable small_ok.flow small_snd (fun i hi => small_stab i hi)
theorem small_ahead (i : Nat) (p : List Int) (h : lA[i]? = some p) : IsSet p (Live smallD i) := by
  refine ⟨?_, fun x => small_all.1 i p x h⟩
  have := List.mem_of_getElem? h
  simp only [lA, List.mem_cons, List.not_mem_nil, or_false] at this
  rcases this with rfl | rfl | rfl | rfl <;> simp
theorem small_behind (i : Nat) (p : List Int) (h : lB[i]? = some p) : IsSet p (LiveB smallD i) := by
  refine ⟨?_, fun x => small_all.2 i p x h⟩
  have := List.mem_of_getElem? h
  simp only [lB, List.mem_cons, List.not_mem_nil, or_false] at this
  rcases this with rfl | rfl | rfl | rfl <;> simp
theorem small_noout {o p : Int} (h : AtOut smallD o p) : o = p := by
  obtain ⟨i, c, hc, ho, hp⟩ := h
  match i, hc with
  | 0, hc => injection hc with hc; subst hc; simp at ho
  | 1, hc =>
    injection hc with hc; subst hc; simp at ho; subst ho
    rcases hp with ⟨hp, _⟩ | hp
    · have := (small_all.2 1 _ p rfl).2 hp
      simp at this; exact this.symm
    · simp at hp; exact hp.symm
  | 2, hc =>
    injection hc with hc; subst hc; simp at ho; subst ho
    rcases hp with ⟨hp, _⟩ | hp
    · have := (small_all.2 2 _ p rfl).2 hp
      simp at this; exact this.symm
    · simp at hp; exact hp.symm
  | 3, hc => injection hc with hc; subst hc; simp at ho
  | n + 4, hc => simp [smallD] at hc
theorem small_clash (i : Nat) (p : List Int) (h : [([] : List Int), []][i]? = some p) : IsSet p (Clashes smallD (i : Int)) := by
  have hp : p = [] := by
    have := List.mem_of_getElem? h
    simpa using this
  subst hp
  refine ⟨by simp, fun x => ⟨fun h => by simp at h, fun hx => ?_⟩⟩
  obtain ⟨hne, (h | h) | (h | h)⟩ := hx
  · exact absurd (small_noout h) hne
  · have := h.1; simp [smallD] at this
  · exact absurd (small_noout h).symm hne
  · have := h.1; simp [smallD] at this
theorem Told.ll {w : World} {base : Nat} {v : Value} {n : Nat} {Q : Nat → Int → Prop} (h : Told w base v n Q) {L : List (List Int)} (hl : L.length = n) (hL : ∀ (i : Nat) p, L[i]? = some p → IsSet p (Q i)) : LL w v L := by
  obtain ⟨vs, P, h1, h2, h3, h4⟩ := h
  have e : P = L := by
    apply List.ext_getElem?
    intro i
    by_cases hi : i < n
    · have a := List.getElem?_eq_getElem (show i < P.length by omega)
      have b := List.getElem?_eq_getElem (show i < L.length by omega)
      rw [a, b, (h4 i _ a).one (hL i _ b)]
    · rw [List.getElem?_eq_none (by omega), List.getElem?_eq_none (by omega)]
  subst e
  subst h3
  obtain ⟨A, c, rfl, _⟩ := own_shape h1
  refine ⟨A, c, vs, rfl, Bk.Src.of_own h1, fun i u p q1 q2 => ?_⟩
  have hu := h2.2 i u p q1 q2
  obtain ⟨B, k, rfl, _⟩ := own_shape hu
  exact ⟨B, k, rfl, Bk.Src.of_own hu⟩
def AlPost (w : World) (en : Ending) (w' : World) : Prop := en = .returned (.bool true) ∧ Below w.heap.size w w'
theorem ll_blk {w : World} {g n : Nat} {cs : Array Value} {L : List (List Int)} (h : Blk w g 23 cs) (hn : cs.size = n) (hl : L.length = n) (hr : ∀ (i : Nat) u p, cs.toList[i]? = some u → L[i]? = some p → IR w u p) : LL w (.slice (some ⟨g, 0, none⟩) n n) L := by
  subst hl
  exact ⟨_, _, cs.toList, rfl, Blk.srcAll h hn, hr⟩
end Go.Proofs.YtgmapikcpnffhaaGreat
