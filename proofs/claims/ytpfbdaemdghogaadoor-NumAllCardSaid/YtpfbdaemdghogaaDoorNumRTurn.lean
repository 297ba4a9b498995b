/-
  The reference's turned: a number turned left, step by step, is the number turned at once.
  Conditions: the number fits its type, and it is turned by at most its bits.
-/
import Derived.Test.YtpfbdaemdghogaaDoorNumRSmall
import Derived.Test.YtpfbdaemdghogaaDoorNumFit
import Derived.Test.YtpfbdaemdghogaaDoorRot
namespace Go.Bk.Num
open Go
theorem rot_step {W a n : Nat} (hn : n + 1 ≤ W) (ha : a < 2 ^ W) : rot W (rot W a n) 1 = rot W a (n + 1) := by
  have e1 : 2 ^ (W - n) = 2 ^ (W - (n + 1)) * 2 := by rw [← Nat.pow_succ]; congr 1; omega
  have e2 : 2 ^ (W - 1) = 2 ^ (W - (n + 1)) * 2 ^ n := by rw [← Nat.pow_add]; congr 1; omega
  have hl := rot_hi (n := n) (by omega) ha
  have hP : 0 < 2 ^ (W - (n + 1)) := Nat.pow_pos (by decide)
  have hQ : 0 < 2 ^ n := Nat.pow_pos (by decide)
  unfold rot
  rw [e2, e1, show 2 ^ (n + 1) = 2 ^ n * 2 from Nat.pow_succ ..]
  rw [e1] at hl
  generalize 2 ^ (W - (n + 1)) = P at hP hl ⊢
  generalize 2 ^ n = Q at hQ hl ⊢
  rw [show a % (P * 2) = a % P + P * (a / P % 2) from Nat.mod_mul, show a / (P * 2) = a / P / 2 from (Nat.div_div_eq_div_mul ..).symm]
  rw [← Nat.div_div_eq_div_mul] at hl
  have hh : a % P < P := Nat.mod_lt _ hP
  generalize a % P = h at hh ⊢
  generalize a / P = t at hl ⊢
  have hb : t % 2 < 2 := Nat.mod_lt _ (by decide)
  have hsmall : h * Q + t / 2 < P * Q := by
    have : (h + 1) * Q ≤ P * Q := Nat.mul_le_mul_right _ hh
    rw [Nat.add_mul] at this
    omega
  have hx : (h + P * (t % 2)) * Q + t / 2 = (P * Q) * (t % 2) + (h * Q + t / 2) := by
    rw [Nat.add_mul, Nat.mul_right_comm P (t % 2) Q]
    omega
  rw [hx, Nat.mul_add_mod, Nat.mod_eq_of_lt hsmall, Nat.mul_add_div (Nat.mul_pos hP hQ), Nat.div_eq_of_lt hsmall]
  rw [Nat.pow_one, ← Nat.mul_assoc, Nat.add_mul]
  omega
end Go.Bk.Num
namespace Go.Proofs.YtpfbdaemdghogaaDoor
open Go.RowKit Go.Bk Go.Bk.Num
set_option linter.unusedVariables false
set_option linter.unusedSimpArgs false
theorem or_even {x : Nat} (c : Nat) (hc : c < 2) : x * 2 ||| c = x * 2 + c := by
  have := Nat.two_pow_add_eq_or_of_lt (i := 1) (b := c) (by omega) x
  rw [Nat.pow_one] at this
  rw [Nat.mul_comm x 2, this]
theorem step64 {x : Nat} (hx : x < 18446744073709551616) : bits .or .u64 (IntKind.u64.wrap ((x : Int) * 2)) ((x : Int) / 9223372036854775808) = ((rot 64 x 1 : Nat) : Int) := by
  rw [IntKind.wrap_u64, show ((x : Int) * 2) % 18446744073709551616 = ((x * 2 % 2 ^ 64 : Nat) : Int) by omega, show (x : Int) / 9223372036854775808 = ((x / 2 ^ (64 - 1) : Nat) : Int) by omega]
  rw [bits_or_u64_nat _ _ (by omega) (by omega), ← shl_or (W := 64) (by decide) (by omega)]
theorem step32 {x : Nat} (hx : x < 4294967296) : bits .or .u64 ((x : Int) * 2) ((x : Int) / 2147483648) % 4294967296 = ((rot 32 x 1 : Nat) : Int) := by
  rw [show ((x : Int) * 2) = ((x * 2 : Nat) : Int) by omega, show (x : Int) / 2147483648 = ((x / 2147483648 : Nat) : Int) by omega]
  rw [bits_or_u64_nat _ _ (by omega) (by omega), or_even _ (by omega)]
  unfold rot
  omega

def TuRel (W a n : Nat) (av i : Value) : Prop := ∃ k : Nat, k ≤ n ∧ i = .int .i64 k ∧ av = .int .u64 ((rot W a k : Nat) : Int)
set_option maxHeartbeats 1000000 in
theorem turned64 (a n : Nat) (w : World) (hn : n ≤ 64) (ha : a < 18446744073709551616) : Calls Tryd.prog 57 #[.int .u64 a, .int .i64 n, .int .i64 64] w fun e w' => e = .returned (.int .u64 ((rot 64 a n : Nat) : Int)) ∧ w = w' := by
  have HA := Lib.hid (show a < 2 ^ 64 from ha)
  go_enter Tryd.func57, Tryd.ntmps57
  go_wp2_with fail
  go_loop [0, 7] (fun av i => TuRel 64 a n av i) (fun _ i => n + 1 - (intOf i).toNat)
  case atStart => exact ⟨0, by omega, rfl, by rw [rot_zero HA.out]⟩
  case round =>
    obtain ⟨k, hk, rfl, rfl⟩ := hrel
    by_cases hlt : k < n
    · have hlt' : decide ((k : Int) < (n : Int)) = true := by simpa using hlt
      have hr := rot_lt (W := 64) (n := k) (by omega) HA.out
      have HS := Lib.hid (rot_step (n := k) (W := 64) (by omega) HA.out)
      generalize rot 64 a k = x at hr HS ⊢
      go_wp2_with fail
      refine (low64 _ _).mono ?_
      rintro e w1 ⟨rfl, rfl⟩
      go_wp2
      refine ⟨⟨k + 1, by omega, by simp, ?_⟩, by simp [intOf]; omega⟩
      rw [← HS.out, ← step64 hr]
    · obtain rfl : k = n := by omega
      have hlt' : decide ((k : Int) < (k : Int)) = false := by simp
      go_wp2
      go_ret
      exact ⟨rfl, rfl⟩
set_option maxHeartbeats 1000000 in
theorem turned32 (a n : Nat) (w : World) (hn : n ≤ 32) (ha : a < 4294967296) : Calls Tryd.prog 57 #[.int .u64 a, .int .i64 n, .int .i64 32] w fun e w' => e = .returned (.int .u64 ((rot 32 a n : Nat) : Int)) ∧ w = w' := by
  have HA := Lib.hid (show a < 2 ^ 32 from ha)
  go_enter Tryd.func57, Tryd.ntmps57
  go_wp2_with fail
  go_loop [0, 7] (fun av i => TuRel 32 a n av i) (fun _ i => n + 1 - (intOf i).toNat)
  case atStart => exact ⟨0, by omega, rfl, by rw [rot_zero HA.out]⟩
  case round =>
    obtain ⟨k, hk, rfl, rfl⟩ := hrel
    by_cases hlt : k < n
    · have hlt' : decide ((k : Int) < (n : Int)) = true := by simpa using hlt
      have hr := rot_lt (W := 32) (n := k) (by omega) HA.out
      have HS := Lib.hid (rot_step (n := k) (W := 32) (by omega) HA.out)
      generalize rot 32 a k = x at hr HS ⊢
      go_wp2_with fail
      refine (low32 _ _ ?_ ?_).mono ?_
      · exact (u64_bits_rng _ _ _).1
      · exact (u64_bits_rng _ _ _).2
      rintro e w1 ⟨rfl, rfl⟩
      go_wp2
      refine ⟨⟨k + 1, by omega, by simp, ?_⟩, by simp [intOf]; omega⟩
      rw [← HS.out, ← step32 hr]
    · obtain rfl : k = n := by omega
      have hlt' : decide ((k : Int) < (k : Int)) = false := by simp
      go_wp2
      go_ret
      exact ⟨rfl, rfl⟩
end Go.Proofs.YtpfbdaemdghogaaDoor
