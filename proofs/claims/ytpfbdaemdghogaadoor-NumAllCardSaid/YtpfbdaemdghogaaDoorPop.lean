/-
  How many bits a number has: the library's ways of counting them come to the plain one.
  Conditions: none.
-/
import Derived.Lib.BitFns
import Derived.Laws.Bits64b
namespace Go.Bk.Num
open Go Go.Lib
set_option linter.unusedVariables false
set_option linter.unusedSimpArgs false

theorem popAux_add : ∀ (a b x : Nat), popAux (a + b) x = popAux a x + popAux b (x / 2 ^ a)
  | 0, b, x => by simp [popAux]
  | a + 1, b, x => by
    rw [show a + 1 + b = (a + b) + 1 from by omega, popAux, popAux, popAux_add a b (x / 2), Nat.div_div_eq_div_mul, Nat.pow_succ, Nat.mul_comm 2]
    omega
theorem popAux_mod : ∀ (a x : Nat), popAux a (x % 2 ^ a) = popAux a x
  | 0, x => rfl
  | a + 1, x => by
    rw [popAux, popAux, ← popAux_mod a (x / 2)]
    have h1 : x % 2 ^ (a + 1) % 2 = x % 2 := by rw [Nat.pow_succ]; exact Nat.mod_mul_left_mod x (2 ^ a) 2
    have h2 : x % 2 ^ (a + 1) / 2 = x / 2 % 2 ^ a := by rw [Nat.pow_succ, Nat.mul_comm]; exact Nat.mod_mul_right_div_self x 2 (2 ^ a)
    rw [h1, h2]
theorem popAux_zero : ∀ a, popAux a 0 = 0
  | 0 => rfl
  | a + 1 => by rw [popAux, popAux_zero a]
theorem popAux_lt {a x : Nat} (h : x < 2 ^ a) (b : Nat) : popAux (a + b) x = popAux a x := by
  rw [popAux_add, Nat.div_eq_of_lt h, popAux_zero, Nat.add_zero]
theorem popAux_le : ∀ a x, popAux a x ≤ a
  | 0, _ => Nat.le_refl _
  | a + 1, x => by rw [popAux]; have := popAux_le a (x / 2); omega

theorem and_low (x y : Nat) : (x &&& y) % 256 = x % 256 &&& y % 256 := Nat.and_mod_two_pow (n := 8) ..
theorem and_high (x y : Nat) : (x &&& y) / 256 = x / 256 &&& y / 256 := Nat.and_div_two_pow (n := 8) ..

/-- n bytes c -/
def mask (c : Nat) : Nat → Nat
  | 0 => 0
  | n + 1 => mask c n * 256 + c
theorem and_mask {c n x : Nat} (hc : c < 256) : x &&& mask c (n + 1) = (x / 256 &&& mask c n) * 256 + (x % 256 &&& c) := by
  have h1 := and_low x (mask c (n + 1))
  have h2 := and_high x (mask c (n + 1))
  have h3 : mask c (n + 1) % 256 = c := by rw [mask]; omega
  have h4 : mask c (n + 1) / 256 = mask c n := by rw [mask]; omega
  rw [h3] at h1
  rw [h4] at h2
  omega

/-- a step of the count: the fields of s bits are added in pairs -/
def stp (s c n x : Nat) : Nat := (x / s &&& mask c n) + (x &&& mask c n)
def stb (s c b : Nat) : Nat := (b / s &&& c) + (b &&& c)
theorem kill1 : ∀ (b : Fin 256) (h : Fin 2), (b.val / 2 + 128 * h.val) &&& 85 = b.val / 2 &&& 85 := by decide +kernel
theorem kill2 : ∀ (b : Fin 256) (h : Fin 4), (b.val / 4 + 64 * h.val) &&& 51 = b.val / 4 &&& 51 := by decide +kernel
theorem stp1 (n x : Nat) : stp 2 85 (n + 1) x = stp 2 85 n (x / 256) * 256 + stb 2 85 (x % 256) := by
  have hk := kill1 ⟨x % 256, by omega⟩ ⟨x / 256 % 2, by omega⟩
  simp only at hk
  unfold stp stb
  rw [and_mask (by omega), and_mask (by omega), show x / 2 % 256 = x % 256 / 2 + 128 * (x / 256 % 2) from by omega, hk, show x / 2 / 256 = x / 256 / 2 from by omega]
  omega
theorem stp2 (n x : Nat) : stp 4 51 (n + 1) x = stp 4 51 n (x / 256) * 256 + stb 4 51 (x % 256) := by
  have hk := kill2 ⟨x % 256, by omega⟩ ⟨x / 256 % 4, by omega⟩
  simp only at hk
  unfold stp stb
  rw [and_mask (by omega), and_mask (by omega), show x / 4 % 256 = x % 256 / 4 + 64 * (x / 256 % 4) from by omega, hk, show x / 4 / 256 = x / 256 / 4 from by omega]
  omega
theorem stb_all : ∀ b : Fin 256, stb 2 85 b.val < 256 ∧ stb 4 51 (stb 2 85 b.val) ≤ 68 ∧ stb 4 51 (stb 2 85 b.val) % 16 ≤ 4 ∧ (stb 4 51 (stb 2 85 b.val) / 16 + stb 4 51 (stb 2 85 b.val)) % 16 = popAux 8 b.val := by decide +kernel
/-- the counts of the bytes, each in its byte -/
def cnts : Nat → Nat → Nat
  | 0, _ => 0
  | n + 1, x => cnts n (x / 256) * 256 + popAux 8 (x % 256)
theorem two_steps : ∀ n x, (stp 4 51 n (stp 2 85 n x)) % 16 ≤ 4 ∧ ((stp 4 51 n (stp 2 85 n x)) / 16 + stp 4 51 n (stp 2 85 n x)) &&& mask 15 n = cnts n x
  | 0, x => by simp [stp, mask, cnts]
  | n + 1, x => by
    obtain ⟨h1, h2⟩ := two_steps n (x / 256)
    obtain ⟨q1, q2, q3, q4⟩ := stb_all ⟨x % 256, by omega⟩
    simp only at q1 q2 q3 q4
    have e1 : stp 2 85 (n + 1) x / 256 = stp 2 85 n (x / 256) := by rw [stp1]; omega
    have e2 : stp 2 85 (n + 1) x % 256 = stb 2 85 (x % 256) := by rw [stp1]; omega
    have e3 : stp 4 51 (n + 1) (stp 2 85 (n + 1) x) = stp 4 51 n (stp 2 85 n (x / 256)) * 256 + stb 4 51 (stb 2 85 (x % 256)) := by rw [stp2, e1, e2]
    rw [e3]
    generalize stp 4 51 n (stp 2 85 n (x / 256)) = hi at h1 h2 ⊢
    generalize stb 4 51 (stb 2 85 (x % 256)) = lo at q2 q3 q4 ⊢
    refine ⟨by omega, ?_⟩
    rw [and_mask (by omega), show ((hi * 256 + lo) / 16 + (hi * 256 + lo)) / 256 = hi / 16 + hi from by omega, h2, cnts, ← q4]
    rw [show ((hi * 256 + lo) / 16 + (hi * 256 + lo)) % 256 &&& 15 = ((hi * 256 + lo) / 16 + (hi * 256 + lo)) % 256 % 16 from Nat.and_two_pow_sub_one_eq_mod _ 4]
    omega

theorem sumA (c0 c1 c2 T1 T2 T3 y : Nat) (b0 : c0 ≤ 8) (b1 : c1 ≤ 8) (b2 : c2 ≤ 8) (t1 : T1 = T2 * 256 + c1) (t2 : T2 = T3 * 256 + c2) (hy : y = T1 * 256 + c0) : y + y / 256 = (T2 + T3) * 65536 + ((c1 + c2) * 256 + (c0 + c1)) := by
  have e : y / 256 = T1 := by omega
  omega
theorem sumB (c0 c1 c2 c3 c4 T2 T3 T4 T5 y1 : Nat) (b0 : c0 ≤ 8) (b1 : c1 ≤ 8) (b2 : c2 ≤ 8) (b3 : c3 ≤ 8) (b4 : c4 ≤ 8) (t2 : T2 = T3 * 256 + c2) (t3 : T3 = T4 * 256 + c3) (t4 : T4 = T5 * 256 + c4) (hy : y1 = (T2 + T3) * 65536 + ((c1 + c2) * 256 + (c0 + c1))) :
    y1 + y1 / 65536 = (T4 + T5) * 4294967296 + (T4 + T5) * 65536 + (((c3 + c4) * 256 + (c2 + c3)) * 65536 + ((c3 + c4) * 256 + (c2 + c3)) + ((c1 + c2) * 256 + (c0 + c1))) := by
  have e : y1 / 65536 = T2 + T3 := by omega
  omega
theorem sumC1 (c4 c5 c6 T4 T5 T6 T7 : Nat) (t4 : T4 = T5 * 256 + c4) (t5 : T5 = T6 * 256 + c5) (t6 : T6 = T7 * 256 + c6) : (T4 + T5) * 65536 = (T6 + T7) * 4294967296 + ((c5 + c6) * 256 + (c4 + c5)) * 65536 := by omega
theorem sumC2 (c4 c5 c6 T4 T5 T6 T7 : Nat) (b4 : c4 ≤ 8) (b5 : c5 ≤ 8) (b6 : c6 ≤ 8) (t4 : T4 = T5 * 256 + c4) (t5 : T5 = T6 * 256 + c5) (t6 : T6 = T7 * 256 + c6) (b7 : T7 ≤ 8) : (T4 + T5 + T6 + T7) % 128 = c4 + c5 + c6 + T7 ∧ T4 + T5 + T6 + T7 < 4294967295 := by
  have h6 : T6 % 256 = c6 := by omega
  have h5 : T5 % 256 = c5 := by omega
  have h4 : T4 % 256 = c4 := by omega
  have g6 : T6 ≤ 2056 := by omega
  have g5 : T5 ≤ 526344 := by omega
  have g4 : T4 ≤ 134744072 := by omega
  clear t4 t5 t6
  omega
theorem sumC3 (V L y2 m v : Nat) (h2 : y2 = V * 4294967296 + L) (hL1 : L < 4294967296) (hL2 : L % 128 = m) (hV2 : V % 128 = v) (hm : m + v < 128) (hV3 : V < 4294967295) : (y2 + y2 / 4294967296) % 128 = m + v ∧ y2 + y2 / 4294967296 < 18446744073709551616 := by
  have e : y2 / 4294967296 = V := by omega
  rw [e]
  omega
theorem sumC4 (a b c d : Nat) (ha : a ≤ 32) (hb : b ≤ 32) (hc : c ≤ 32) (hd : d ≤ 32) : (d * 16777216 + c * 65536 + b * 256 + a) % 128 = a ∧ d * 16777216 + c * 65536 + b * 256 + a < 4294967296 := by omega
theorem sumC (c0 c1 c2 c3 c4 c5 c6 T4 T5 T6 T7 y2 : Nat) (b0 : c0 ≤ 8) (b1 : c1 ≤ 8) (b2 : c2 ≤ 8) (b3 : c3 ≤ 8) (b4 : c4 ≤ 8) (b5 : c5 ≤ 8) (b6 : c6 ≤ 8) (t4 : T4 = T5 * 256 + c4) (t5 : T5 = T6 * 256 + c5) (t6 : T6 = T7 * 256 + c6) (b7 : T7 ≤ 8)
    (hy : y2 = (T4 + T5) * 4294967296 + (T4 + T5) * 65536 + (((c3 + c4) * 256 + (c2 + c3)) * 65536 + ((c3 + c4) * 256 + (c2 + c3)) + ((c1 + c2) * 256 + (c0 + c1)))) :
    (y2 + y2 / 4294967296) % 128 = c0 + c1 + c2 + c3 + c4 + c5 + c6 + T7 ∧ y2 + y2 / 4294967296 < 18446744073709551616 := by
  have hm : c0 + c1 + c2 + c3 + (c4 + c5 + c6 + T7) < 128 := by clear hy t4 t5 t6; omega
  have k1 : c0 + c1 + c2 + c3 ≤ 32 := by clear hy t4 t5 t6; omega
  have k2 : c1 + c2 + c3 + c4 ≤ 32 := by clear hy t4 t5 t6; omega
  have k3 : c2 + c3 + c4 + c5 ≤ 32 := by clear hy t4 t5 t6; omega
  have k4 : c3 + c4 + c5 + c6 ≤ 32 := by clear hy t4 t5 t6; omega
  have e0 := sumC1 c4 c5 c6 T4 T5 T6 T7 t4 t5 t6
  obtain ⟨hV2, hV3⟩ := sumC2 c4 c5 c6 T4 T5 T6 T7 b4 b5 b6 t4 t5 t6 b7
  obtain ⟨hL2, hL1⟩ := sumC4 (c0 + c1 + c2 + c3) (c1 + c2 + c3 + c4) (c2 + c3 + c4 + c5) (c3 + c4 + c5 + c6) k1 k2 k3 k4
  have h2 : y2 = (T4 + T5 + T6 + T7) * 4294967296 + ((c3 + c4 + c5 + c6) * 16777216 + (c2 + c3 + c4 + c5) * 65536 + (c1 + c2 + c3 + c4) * 256 + (c0 + c1 + c2 + c3)) := by
    rw [hy, e0]
    clear e0 hy hV2 hV3 hL2 hL1 t4 t5 t6 b0 b1 b2 b3 b4 b5 b6 b7 hm k1 k2 k3 k4
    omega
  have := sumC3 _ _ y2 _ _ h2 hL1 hL2 hV2 hm hV3
  rw [show c0 + c1 + c2 + c3 + c4 + c5 + c6 + T7 = c0 + c1 + c2 + c3 + (c4 + c5 + c6 + T7) from by simp only [Nat.add_assoc]]
  exact this
theorem sum8 (c0 c1 c2 c3 c4 c5 c6 c7 : Nat) (b0 : c0 ≤ 8) (b1 : c1 ≤ 8) (b2 : c2 ≤ 8) (b3 : c3 ≤ 8) (b4 : c4 ≤ 8) (b5 : c5 ≤ 8) (b6 : c6 ≤ 8) (b7 : c7 ≤ 8) (y y1 y2 : Nat) (hy : y = ((((((c7 * 256 + c6) * 256 + c5) * 256 + c4) * 256 + c3) * 256 + c2) * 256 + c1) * 256 + c0)
    (h1 : y1 = y + y / 256) (h2 : y2 = y1 + y1 / 65536) : (y2 + y2 / 4294967296) % 128 = c0 + c1 + c2 + c3 + c4 + c5 + c6 + c7 ∧ y2 + y2 / 4294967296 < 18446744073709551616 := by
  have e1 := h1.trans (sumA c0 c1 c2 _ _ _ y b0 b1 b2 rfl rfl hy)
  have e2 := h2.trans (sumB c0 c1 c2 c3 c4 _ _ _ _ y1 b0 b1 b2 b3 b4 rfl rfl rfl e1)
  exact sumC c0 c1 c2 c3 c4 c5 c6 _ _ _ c7 y2 b0 b1 b2 b3 b4 b5 b6 rfl rfl rfl b7 e2
theorem popAux8 (z : Nat) : popAux 8 (z % 256) = popAux 8 z := popAux_mod 8 z
theorem pop64 (x : Nat) : popAux 64 x = popAux 8 (x % 256) + popAux 8 (x / 256 % 256) + popAux 8 (x / 65536 % 256) + popAux 8 (x / 16777216 % 256) + popAux 8 (x / 4294967296 % 256) + popAux 8 (x / 1099511627776 % 256) + popAux 8 (x / 281474976710656 % 256) + popAux 8 (x / 72057594037927936 % 256) := by
  rw [show (64 : Nat) = 8 + (8 + (8 + (8 + (8 + (8 + (8 + 8)))))) from rfl]
  simp only [popAux_add, Nat.div_div_eq_div_mul, popAux8, ← Nat.add_assoc, Nat.reducePow, Nat.reduceMul]
theorem pop32 (x : Nat) : popAux 32 x = popAux 8 (x % 256) + popAux 8 (x / 256 % 256) + popAux 8 (x / 65536 % 256) + popAux 8 (x / 16777216 % 256) := by
  rw [show (32 : Nat) = 8 + (8 + (8 + 8)) from rfl]
  simp only [popAux_add, Nat.div_div_eq_div_mul, popAux8, ← Nat.add_assoc, Nat.reducePow, Nat.reduceMul]
theorem cnts_sum (x y y1 y2 : Nat) (hy : y = cnts 8 x) (h1 : y1 = y + y / 256) (h2 : y2 = y1 + y1 / 65536) : (y2 + y2 / 4294967296) % 128 = popAux 64 x ∧ y2 + y2 / 4294967296 < 18446744073709551616 := by
  rw [pop64]
  refine sum8 _ _ _ _ _ _ _ _ (popAux_le 8 _) (popAux_le 8 _) (popAux_le 8 _) (popAux_le 8 _) (popAux_le 8 _) (popAux_le 8 _) (popAux_le 8 _) (popAux_le 8 _) y y1 y2 ?_ h1 h2
  rw [hy]
  simp only [cnts, Nat.div_div_eq_div_mul, Nat.reduceMul, Nat.zero_mul, Nat.zero_add]
end Go.Bk.Num
