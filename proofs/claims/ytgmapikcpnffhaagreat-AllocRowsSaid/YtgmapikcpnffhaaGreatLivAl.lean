/-
 The law's alive: what is live in the small row, and that its places do not clash.
 Conditions: none.
-/
import Derived.Test.YtgmapikcpnffhaaGreatLivLs
namespace Go.Proofs.YtgmapikcpnffhaaGreat
open Go.RowKit Go.Bk Go.Bk.Liv
set_option linter.unusedVariables false
set_option linter.unusedSimpArgs false
def noE : EnvD := ⟨[], 0, [], [], false⟩
theorem noE_v (w : World) : EnvV w (.agg #[.slice none 0 0, .int .i64 0, .slice none 0 0, .slice none 0 0, .bool false]) noE :=
 ⟨_, _, _, rfl, ⟨none, 0, [], rfl, Nat.le_refl _, fun _ => rfl, by simp [noE], rfl, by simp, fun i r x h => by simp at h, Src.nil _ _⟩, Ints.nil _, ⟨none, 0, rfl, Src.nil _ _, Nat.le_refl _, fun _ => rfl, by simp [noE]⟩⟩
theorem next_small {i : Nat} {c : CodeD} (h : smallD.code[i]? = some c) {x : Int} (hx : x ∈ nextOf c i) : x = (i : Int) + 1 ∧ i < 3 := by
 match i, h with
 | 0, h => injection h with h; subst h; simp [nextOf] at hx; exact ⟨hx, by omega⟩
 | 1, h => injection h with h; subst h; simp [nextOf] at hx; exact ⟨by omega, by omega⟩
 | 2, h => injection h with h; subst h; simp [nextOf] at hx; exact ⟨by omega, by omega⟩
 | 3, h => injection h with h; subst h; simp [nextOf] at hx
 | n + 4, h => simp [smallD] at h
theorem small_ok : CheckP noE smallD where
 env := by decide
 sig := by decide
 n1 := by decide
 n2 := by decide
 p1 := by decide
 p2 := by decide
 par := rfl
 pin := rfl
 pun := by simp [smallD]
 code c hc := by
  simp only [smallD, List.mem_cons, List.not_mem_nil, or_false] at hc
  rcases hc with rfl | rfl | rfl | rfl <;> rfl
 first c hc := by injection hc with hc; subst hc; rfl
 last c hc := by injection hc with hc; subst hc; decide
 rank := ⟨fun i => 4 - i, fun i c k hc _ hk => by
  obtain ⟨h1, h2⟩ := next_small hc hk
  show 4 - k < 4 - i
  omega⟩
def lA : List (List Int) := [[], [], [0], [1]]
def lB : List (List Int) := [[], [0], [1], []]
theorem Told.ll {w : World} {base : Nat} {v : Value} {n : Nat} {Q : Nat → Int → Prop} (h : Told w base v n Q) {L : List (List Int)} (hl : L.length = n) (hL : ∀ (i : Nat) p, L[i]? = some p → IsSet p (Q i)) : LL w v L := by
 obtain ⟨vs, P, h1, h2, h3, h4⟩ := h
 have e : P = L := by
  apply List.ext_getElem?
  intro i
  by_cases hi : i < n
  ·have a := List.getElem?_eq_getElem (show i < P.length by omega)
   have b := List.getElem?_eq_getElem (show i < L.length by omega)
   rw [a, b, (h4 i _ a).one (hL i _ b)]
  ·rw [List.getElem?_eq_none (by omega), List.getElem?_eq_none (by omega)]
 subst e
 subst h3
 obtain ⟨A, c, rfl, _⟩ := own_shape h1
 refine ⟨A, c, vs, rfl, Bk.Src.of_own h1, fun i u p q1 q2 => ?_⟩
 have hu := h2.2 i u p q1 q2
 obtain ⟨B, k, rfl, _⟩ := own_shape hu
 exact ⟨B, k, rfl, Bk.Src.of_own hu⟩
def AlPost (w : World) (en : Ending) (w' : World) : Prop := en = .returned (.bool true) ∧ Below w.heap.size w w'
theorem ll_blk {w : World} {g n : Nat} {cs : Array Value} {L : List (List Int)} (h : Blk w g 23 cs) (hn : cs.size = n) (hl : L.length = n) (hr : ∀ (i : Nat) u p, cs.toList[i]? = some u → L[i]? = some p → IR w u p) : LL w (.slice (some ⟨g, 0, none⟩) n n) L := by
 subst hl
 exact ⟨_, _, cs.toList, rfl, Blk.srcAll h hn, hr⟩
end Go.Proofs.YtgmapikcpnffhaaGreat
