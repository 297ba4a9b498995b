/-
  What leb's reader of groups computes, as a value, and the small facts of its round.
  Conditions: none.
-/
import Derived.Test.YtlfbmpbnmakacaaPut
namespace Go.Proofs.Ytlfbmpbnmakacaa
open Go.RowKit Go.Bk Go.Bk.Leb

def faultV (why at_ : Int) : Value := .agg #[.int .i64 why, .int .i64 at_, .int .i64 0]

def rdV (k : IntKind) (val : Nat → Nat → Int) (at_ len : Nat) (r : Nat × Nat × Nat) : Value :=
  if r.1 = 0 then .tuple #[.int k (val r.2.1 r.2.2), .int .i64 ((at_ + r.2.2 : Nat) : Int), faultV 0 0]
  else if r.1 = 4 then .tuple #[.int k 0, .int .i64 0, faultV 4 len]
  else .tuple #[.int k 0, .int .i64 0, faultV 3 ((at_ + r.2.2 : Nat) : Int)]

theorem and127 {x : Nat} (hx : x < 256) : bits .and .u8 (x : Int) 127 = ((x % 128 : Nat) : Int) := by
  have h : ∀ x : Fin 256, bits .and .u8 ((x.val : Nat) : Int) 127 = ((x.val % 128 : Nat) : Int) := by decide +kernel
  exact h ⟨x, hx⟩

theorem wrap_u64_nat {n : Nat} (h : n < 18446744073709551616) : IntKind.u64.wrap (n : Int) = (n : Int) := by
  rw [IntKind.wrap_u64]
  omega

theorem bits_or_u64 {a b : Nat} (ha : a < 18446744073709551616) (hb : b < 18446744073709551616) : bits .or .u64 (a : Int) (b : Int) = ((a ||| b : Nat) : Int) := by
  have hx : a ||| b < 2 ^ 64 := Nat.or_lt_two_pow (by omega) (by omega)
  show IntKind.u64.wrap ((BitVec.ofInt 64 (a : Int) ||| BitVec.ofInt 64 (b : Int)).toNat : Int) = _
  rw [BitVec.toNat_or, BitVec.ofInt_natCast, BitVec.ofInt_natCast, BitVec.toNat_ofNat, BitVec.toNat_ofNat, Nat.mod_eq_of_lt (by omega), Nat.mod_eq_of_lt (by omega)]
  exact wrap_u64_nat (by omega)

theorem acc_any {q x k : Nat} {P : Int} (hP : P = ((128 ^ k : Nat) : Int)) (hx : x < 256) (hq : q < 128 ^ k) (hs : q + (x % 128) * 128 ^ k < 18446744073709551616) :
    bits .or .u64 (q : Int) (IntKind.u64.wrap (IntKind.u64.wrap (bits .and .u8 (x : Int) 127) * P)) = ((q + (x % 128) * 128 ^ k : Nat) : Int) := by
  subst hP
  have e128 : (128 : Nat) ^ k = 2 ^ (7 * k) := by rw [Nat.pow_mul]
  rw [and127 hx, wrap_u64_nat (by omega), ← Int.natCast_mul, wrap_u64_nat (by omega), bits_or_u64 (by omega) (by omega)]
  congr 1
  rw [e128] at hq ⊢
  rw [← Nat.shiftLeft_eq, Nat.or_comm, ← Nat.shiftLeft_add_eq_or_of_lt hq]
  omega

theorem pow_small {k : Nat} (h : k ≤ 8) : (128 : Nat) ^ k ≤ 72057594037927936 := by have := Nat.pow_le_pow_right (n := 128) (by omega) h; simpa using this

theorem acc_small {q x k : Nat} (hx : x < 256) (hk : k ≤ 8) (hq : q < 128 ^ k) :
    bits .or .u64 (q : Int) (IntKind.u64.wrap (IntKind.u64.wrap (bits .and .u8 (x : Int) 127) * 2 ^ (7 * k))) = ((q + (x % 128) * 128 ^ k : Nat) : Int) := by
  refine acc_any ?_ hx hq ?_
  · rw [Int.natCast_pow, show (128 : Nat) = 2 ^ 7 from rfl, Int.natCast_pow, ← Int.pow_mul]
    rfl
  · have h1 := pow_small hk
    have h2 : (x % 128) * 128 ^ k ≤ 127 * 128 ^ k := Nat.mul_le_mul_right _ (by omega)
    omega

/-- at the tenth group one bit has room -/
theorem acc_ten {q x : Nat} (hx : x < 256) (hq : q < 128 ^ 9) :
    bits .or .u64 (q : Int) (IntKind.u64.wrap (IntKind.u64.wrap (bits .and .u8 (x : Int) 127) * 9223372036854775808)) = (((q + (x % 128) * 128 ^ 9) % 18446744073709551616 : Nat) : Int) := by
  have e1 : IntKind.u64.wrap (IntKind.u64.wrap (bits .and .u8 (x : Int) 127) * 9223372036854775808) = (((x % 2) <<< 63 : Nat) : Int) := by
    rw [and127 hx, wrap_u64_nat (by omega), IntKind.wrap_u64, Nat.shiftLeft_eq]
    omega
  have hs : (x % 2) <<< 63 = (x % 2) * 9223372036854775808 := by rw [Nat.shiftLeft_eq]
  rw [e1, bits_or_u64 (by omega) (by omega), Nat.or_comm, ← Nat.shiftLeft_add_eq_or_of_lt (by omega), hs]
  exact congrArg Int.ofNat (by omega)

theorem acc_four {q x : Nat} (hx : x < 256) (hq : q < 128 ^ 4) :
    bits .or .u64 (q : Int) (IntKind.u64.wrap (IntKind.u64.wrap (bits .and .u8 (x : Int) 127) * 268435456)) = (((q + (x % 128) * 128 ^ 4) % 18446744073709551616 : Nat) : Int) := by
  have h := acc_any (q := q) (x := x) (k := 4) (P := 268435456) rfl hx hq (by omega)
  rw [h]
  exact congrArg Int.ofNat (by omega)

theorem acc_next {q x k : Nat} (hq : q < 128 ^ k) : q + (x % 128) * 128 ^ k < 128 ^ (k + 1) := by
  have h2 : (x % 128) * 128 ^ k ≤ 127 * 128 ^ k := Nat.mul_le_mul_right _ (by omega)
  rw [Nat.pow_succ]
  omega

theorem mayU_any (c k : Int) (w : World) (_h0 : 0 ≤ c) (_h1 : c < 256) (_hk : 0 ≤ k) (_hk1 : k ≤ 7) :
    Calls Try.prog 24 #[.int .u8 c, .int .i64 k] w fun e w' => e = .returned (.bool (c / 2 ^ k.toNat == 0)) ∧ w = w' := by
  go_enter Try.func24, Try.ntmps24
  go_wp2
  go_ret
  exact ⟨rfl, rfl⟩

theorem mayS_any (c k : Int) (w : World) (_h0 : 0 ≤ c) (_h1 : c < 256) (_hk : 0 ≤ k) (_hk1 : k ≤ 7) :
    Calls Try.prog 27 #[.int .u8 c, .int .i64 k] w fun e w' => e = .returned (.bool (IntKind.i8.wrap (c * 2 % 256) / 2 ^ k.toNat == 0 || IntKind.i8.wrap (c * 2 % 256) / 2 ^ k.toNat == -1)) ∧ w = w' := by
  go_enter Try.func27, Try.ntmps27
  go_wp2
  · rename_i h
    go_ret
    refine ⟨?_, rfl⟩
    rw [h]
    rfl
  · go_ret
    exact ⟨rfl, rfl⟩

theorem mayU_32 (c : Nat) (w : World) (h : c < 128) : Calls Try.prog 24 #[.int .u8 (c : Int), .int .i64 4] w fun e w' => e = .returned (.bool (mayU 32 c)) ∧ w = w' := by
  refine (mayU_any c 4 w (by omega) (by omega) (by omega) (by omega)).mono ?_
  rintro e w' ⟨rfl, rfl⟩
  refine ⟨?_, rfl⟩
  congr 2
  rw [Bool.eq_iff_iff]
  simp [mayU]
  omega
theorem mayU_64 (c : Nat) (w : World) (h : c < 128) : Calls Try.prog 24 #[.int .u8 (c : Int), .int .i64 1] w fun e w' => e = .returned (.bool (mayU 64 c)) ∧ w = w' := by
  refine (mayU_any c 1 w (by omega) (by omega) (by omega) (by omega)).mono ?_
  rintro e w' ⟨rfl, rfl⟩
  refine ⟨?_, rfl⟩
  congr 2
  rw [Bool.eq_iff_iff]
  simp [mayU]
  omega
theorem mayS_32 (c : Nat) (w : World) (h : c < 128) : Calls Try.prog 27 #[.int .u8 (c : Int), .int .i64 4] w fun e w' => e = .returned (.bool (mayS 32 c)) ∧ w = w' := by
  refine (mayS_any c 4 w (by omega) (by omega) (by omega) (by omega)).mono ?_
  rintro e w' ⟨rfl, rfl⟩
  refine ⟨?_, rfl⟩
  congr 2
  have hh : ∀ x : Fin 128, (IntKind.i8.wrap (((x.val : Nat) : Int) * 2 % 256) / 2 ^ (4 : Int).toNat == 0 || IntKind.i8.wrap (((x.val : Nat) : Int) * 2 % 256) / 2 ^ (4 : Int).toNat == -1) = mayS 32 x.val := by decide +kernel
  exact hh ⟨c, h⟩
theorem mayS_64 (c : Nat) (w : World) (h : c < 128) : Calls Try.prog 27 #[.int .u8 (c : Int), .int .i64 1] w fun e w' => e = .returned (.bool (mayS 64 c)) ∧ w = w' := by
  refine (mayS_any c 1 w (by omega) (by omega) (by omega) (by omega)).mono ?_
  rintro e w' ⟨rfl, rfl⟩
  refine ⟨?_, rfl⟩
  congr 2
  have hh : ∀ x : Fin 128, (IntKind.i8.wrap (((x.val : Nat) : Int) * 2 % 256) / 2 ^ (1 : Int).toNat == 0 || IntKind.i8.wrap (((x.val : Nat) : Int) * 2 % 256) / 2 ^ (1 : Int).toNat == -1) = mayS 64 x.val := by decide +kernel
  exact hh ⟨c, h⟩

set_option maxHeartbeats 400000 in
theorem read_arg (f : Nat) (A : Option Addr) (n c : Nat) (at_ size : Int) (w : World) (h : size ≠ 32 ∧ size ≠ 64 ∨ at_ < 0 ∨ (n : Int) < at_) :
    Calls Try.prog 23 #[.slice A n c, .int .i64 at_, .int .i64 size, .func (.func f) #[] #[]] w fun e w' =>
      e = .returned (.tuple #[.int .u64 0, .int .i64 0, faultV 1 at_]) ∧ Below w.heap.size w w' := by
  by_cases hs : size ≠ 32 ∧ size ≠ 64
  · obtain ⟨h1, h2⟩ := hs
    have g1 : (size != 32) = true := by simp [h1]
    have g2 : (size != 64) = true := by simp [h2]
    clear h h1 h2
    go_enter Try.func23, Try.ntmps23
    go_wp2
    exact bodyPost_ret (v := .tuple #[.int .u64 0, .int .i64 0, faultV 1 at_]) (by simp [results, Try.results23, go_sem, faultV]) rfl ⟨rfl, (Below.refl _ _).alloc (Nat.le_refl _) _⟩
  · have hs' : size = 32 ∨ size = 64 := by omega
    have h' : at_ < 0 ∨ (n : Int) < at_ := by omega
    clear h hs
    by_cases h0 : at_ < 0
    · have g : decide (at_ < 0) = true := by simp [h0]
      rcases hs' with rfl | rfl
      all_goals
        go_enter Try.func23, Try.ntmps23
        go_wp2
        exact bodyPost_ret (v := .tuple #[.int .u64 0, .int .i64 0, faultV 1 at_]) (by simp [results, Try.results23, go_sem, faultV]) rfl ⟨rfl, (Below.refl _ _).alloc (Nat.le_refl _) _⟩
    · have g : decide (at_ < 0) = false := by simp; omega
      have h1 : (n : Int) < at_ := by omega
      have g2 : decide ((n : Int) < at_) = true := by simp [h1]
      rcases hs' with rfl | rfl
      all_goals
        go_enter Try.func23, Try.ntmps23
        go_wp2
        exact bodyPost_ret (v := .tuple #[.int .u64 0, .int .i64 0, faultV 1 at_]) (by simp [results, Try.results23, go_sem, faultV]) rfl ⟨rfl, (Below.refl _ _).alloc (Nat.le_refl _) _⟩
end Go.Proofs.Ytlfbmpbnmakacaa
