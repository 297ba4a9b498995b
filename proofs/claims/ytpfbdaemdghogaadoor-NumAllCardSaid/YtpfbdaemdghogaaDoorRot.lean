/-
  Numbers turned by some bits: what the program's way comes to, back and forth, and that the bits stay as many.
  Conditions: none.
-/
import Derived.Test.YtpfbdaemdghogaaDoorPop
namespace Go.Bk.Num
open Go Go.Lib
set_option linter.unusedVariables false

/-- a number of W bits, turned left by n bits -/
def rot (W a n : Nat) : Nat := a % 2 ^ (W - n) * 2 ^ n + a / 2 ^ (W - n)
theorem pow_split {W n : Nat} (hn : n ≤ W) : 2 ^ W = 2 ^ (W - n) * 2 ^ n := by rw [← Nat.pow_add]; congr 1; omega
theorem rot_hi {W a n : Nat} (hn : n ≤ W) (ha : a < 2 ^ W) : a / 2 ^ (W - n) < 2 ^ n := by
  rw [Nat.div_lt_iff_lt_mul (Nat.two_pow_pos _), Nat.mul_comm, ← pow_split hn]
  exact ha
/-- the low bits that go out at the left come in at the right -/
theorem shl_or {W a n : Nat} (hn : n ≤ W) (ha : a < 2 ^ W) : (a * 2 ^ n % 2 ^ W) ||| (a / 2 ^ (W - n)) = rot W a n := by
  have h1 : a * 2 ^ n % 2 ^ W = a % 2 ^ (W - n) * 2 ^ n := by rw [pow_split hn]; exact Nat.mul_mod_mul_right ..
  rw [h1, rot, Nat.mul_comm (a % 2 ^ (W - n)), Nat.two_pow_add_eq_or_of_lt (rot_hi hn ha)]
theorem shr_or {W a n : Nat} (hn : n ≤ W) (ha : a < 2 ^ W) : (a / 2 ^ n) ||| (a * 2 ^ (W - n) % 2 ^ W) = rot W a (W - n) := by
  have := shl_or (W := W) (a := a) (n := W - n) (by omega) ha
  rw [show W - (W - n) = n from by omega] at this
  rw [Nat.or_comm]
  exact this
theorem rot_lt {W a n : Nat} (hn : n ≤ W) (ha : a < 2 ^ W) : rot W a n < 2 ^ W := by
  have h1 := rot_hi hn ha
  have h2 : a % 2 ^ (W - n) < 2 ^ (W - n) := Nat.mod_lt _ (Nat.two_pow_pos _)
  have h3 : (a % 2 ^ (W - n) + 1) * 2 ^ n ≤ 2 ^ (W - n) * 2 ^ n := Nat.mul_le_mul_right _ h2
  rw [Nat.add_mul, Nat.one_mul, ← pow_split hn] at h3
  unfold rot
  omega
theorem rot_parts {W a n : Nat} (hn : n ≤ W) (ha : a < 2 ^ W) : rot W a n / 2 ^ n = a % 2 ^ (W - n) ∧ rot W a n % 2 ^ n = a / 2 ^ (W - n) := by
  have h1 := rot_hi hn ha
  unfold rot
  refine ⟨?_, ?_⟩
  · rw [Nat.mul_comm, Nat.mul_add_div (Nat.two_pow_pos _), Nat.div_eq_of_lt h1, Nat.add_zero]
  · rw [Nat.mul_comm, Nat.mul_add_mod, Nat.mod_eq_of_lt h1]
theorem rot_back {W a n : Nat} (hn : n ≤ W) (ha : a < 2 ^ W) : rot W (rot W a n) (W - n) = a := by
  obtain ⟨h1, h2⟩ := rot_parts hn ha
  rw [rot, show W - (W - n) = n from by omega, h1, h2]
  have := Nat.div_add_mod a (2 ^ (W - n))
  rw [Nat.mul_comm] at this
  exact this
theorem rot_pop {W a n : Nat} (hn : n ≤ W) (ha : a < 2 ^ W) : popAux W (rot W a n) = popAux W a := by
  obtain ⟨h1, h2⟩ := rot_parts hn ha
  have e1 := popAux_add n (W - n) (rot W a n)
  have e2 := popAux_add (W - n) n a
  rw [show n + (W - n) = W from by omega, h1, popAux_mod, ← popAux_mod n (rot W a n), h2] at e1
  rw [show W - n + n = W from by omega] at e2
  omega
theorem rot_zero {W a : Nat} (ha : a < 2 ^ W) : rot W a 0 = a := by simp [rot, Nat.mod_eq_of_lt ha, Nat.div_eq_of_lt ha]
end Go.Bk.Num
