/-
  Plain facts on numbers in groups: what was put is read. No program in sight.
  Conditions: none.
-/
import Derived.Test.YtlfbmpbnmakacaaRead3
namespace Go.Bk.Leb
open Go.Proofs.Ytlfbmpbnmakacaa

/-- the number of groups -/
def uval : List Nat → Nat
  | [] => 0
  | c :: r => c % 128 + 128 * uval r

/-- all go on -/
def Goes (l : List Nat) : Prop := ∀ c ∈ l, 128 ≤ c ∧ c < 256

theorem uval_app (a b : List Nat) : uval (a ++ b) = uval a + 128 ^ a.length * uval b := by
  induction a with
  | nil => simp [uval]
  | cons c r ih =>
    simp only [List.cons_append, uval, ih, List.length_cons, Nat.pow_succ]
    rw [Nat.mul_add, Nat.add_assoc, ← Nat.mul_assoc, Nat.mul_comm 128 (128 ^ r.length)]

theorem uval_lt : ∀ l : List Nat, uval l < 128 ^ l.length
  | [] => by simp [uval]
  | c :: r => by
    have := uval_lt r
    simp only [uval, List.length_cons, Nat.pow_succ]
    omega

/-- a number's groups are read, whatever stands behind them -/
theorem rd_groups (may : Nat → Bool) (m : Nat) (c : Nat) (rest : List Nat) (hc : c < 128) : ∀ (init : List Nat) (i q : Nat), Goes init → i ≤ m →
    rd may m (init ++ c :: rest) i q =
      if i + init.length < m ∨ i + init.length = m ∧ may c = true then (0, q + uval (init ++ [c]) * 128 ^ i, i + init.length + 1) else (3, 0, m)
  | [], i, q, _, hi => by
    simp only [List.nil_append, List.length_nil, Nat.add_zero, uval, Nat.mul_zero]
    rw [show c % 128 = c from by omega]
    rcases Nat.lt_or_ge i m with h | h
    · rw [rd_end h hc, if_pos (.inl h)]
    · obtain rfl : i = m := by omega
      by_cases hm : may c = true
      · rw [rd_last_ok hc hm, if_pos (.inr ⟨rfl, hm⟩)]
      · rw [rd_last_no (by simp [hm]), if_neg (by simp [hm])]
  | x :: r, i, q, hg, hi => by
    have hx := hg x (by simp)
    rcases Nat.lt_or_ge i m with h | h
    · rw [List.cons_append, rd_more h (by omega), rd_groups may m c rest hc r (i + 1) _ (fun y hy => hg y (by simp [hy])) (by omega)]
      have e1 : i + 1 + r.length = i + (x :: r).length := by simp; omega
      have e2 : q + x % 128 * 128 ^ i + uval (r ++ [c]) * 128 ^ (i + 1) = q + uval (x :: r ++ [c]) * 128 ^ i := by
        simp only [List.cons_append, uval, Nat.pow_succ, Nat.add_mul]
        rw [Nat.mul_comm (128 ^ i) 128, ← Nat.mul_assoc, Nat.mul_comm (uval (r ++ [c])) 128, Nat.add_assoc]
      rw [e1, e2]
    · obtain rfl : i = m := by omega
      rw [List.cons_append, rd_last_no (by omega), if_neg (by simp)]

/-- only groups that go on: a byte is missing -/
theorem rd_missing (may : Nat → Bool) (m : Nat) : ∀ (init : List Nat) (i q : Nat), Goes init → i + init.length ≤ m → rd may m init i q = (4, 0, 0)
  | [], _, _, _, _ => rfl
  | x :: r, i, q, hg, hi => by
    have hx := hg x (by simp)
    simp only [List.length_cons] at hi
    rw [rd_more (by omega) (by omega)]
    exact rd_missing may m r (i + 1) _ (fun y hy => hg y (by simp [hy])) (by omega)

/-- what is put: groups that go on, and a last one -/
theorem putU_form : ∀ (k : Nat) (n : Int), FitU k n → ∃ init c, putG lastU k n = init ++ [c] ∧ Goes init ∧ c < 128 ∧ init.length ≤ k ∧ (uval (init ++ [c]) : Int) = n
  | k, n, h => by
    cases hl : lastU n with
    | true =>
      refine ⟨[], (n % 128).toNat, putG_stop hl, fun _ hx => by simp at hx, by omega, by simp, ?_⟩
      obtain ⟨h0, _⟩ := h
      simp [lastU] at hl
      simp only [List.nil_append, uval]
      omega
    | false =>
      obtain ⟨j, rfl, hf⟩ := h.step hl
      obtain ⟨init, c, h1, h2, h3, h4, h5⟩ := putU_form j (n / 128) hf
      refine ⟨((n % 128).toNat + 128) :: init, c, by rw [putG_go hl, h1]; rfl, ?_, h3, by simpa using h4, ?_⟩
      · intro x hx
        rcases List.mem_cons.1 hx with rfl | hx
        · omega
        · exact h2 x hx
      · simp only [List.cons_append, uval]
        omega

theorem putS_form : ∀ (k : Nat) (n : Int), FitS k n → ∃ init c, putG lastS k n = init ++ [c] ∧ Goes init ∧ c < 128 ∧ init.length ≤ k ∧ (uval (init ++ [c]) : Int) - (if 64 ≤ c then 128 ^ (init.length + 1) else 0) = n
  | k, n, h => by
    cases hl : lastS n with
    | true =>
      refine ⟨[], (n % 128).toNat, putG_stop hl, fun _ hx => by simp at hx, by omega, by simp, ?_⟩
      simp [lastS] at hl
      simp only [List.nil_append, uval, List.length_nil]
      split <;> omega
    | false =>
      obtain ⟨j, rfl, hf⟩ := h.step hl
      obtain ⟨init, c, h1, h2, h3, h4, h5⟩ := putS_form j (n / 128) hf
      refine ⟨((n % 128).toNat + 128) :: init, c, by rw [putG_go hl, h1]; rfl, ?_, h3, by simpa using h4, ?_⟩
      · intro x hx
        rcases List.mem_cons.1 hx with rfl | hx
        · omega
        · exact h2 x hx
      · simp only [List.cons_append, uval, List.length_cons]
        rw [Int.pow_succ]
        split at h5
        · rename_i hc
          rw [if_pos hc]
          omega
        · rename_i hc
          rw [if_neg hc]
          omega

theorem putU_len : ∀ (j k : Nat) (n : Int), 0 ≤ n → n < 128 ^ (j + 1) → (putG lastU k n).length ≤ j + 1
  | j, 0, n, _, _ => by simp [putG]
  | j, k + 1, n, h0, h => by
    cases hl : lastU n with
    | true => rw [putG_stop hl]; simp
    | false =>
      rw [putG_go hl]
      cases j with
      | zero =>
        simp [lastU] at hl
        omega
      | succ j =>
        have := putU_len j k (n / 128) (by omega) (by rw [Int.pow_succ] at h; omega)
        simp
        omega
end Go.Bk.Leb
