/-
  The reference's whole: what is computed of two numbers is twoV.
  Conditions: the numbers fit their types.
-/
import Derived.Test.YtpfbdaemdghogaaDoorNumRDiv
import Derived.Test.YtpfbdaemdghogaaDoorNumRTurn
import Derived.Test.YtpfbdaemdghogaaDoorNumTurns
namespace Go.Proofs.YtpfbdaemdghogaaDoor
open Go.RowKit Go.Bk Go.Bk.Num
set_option linter.unusedVariables false
set_option linter.unusedSimpArgs false
theorem and32n {a b : Nat} (ha : a < 4294967296) (hb : b < 4294967296) : bits .and .u32 (a : Int) (b : Int) = bits .and .u64 (a : Int) (b : Int) := by
  rw [bits_and_u32_nat a b ha hb, bits_and_u64_nat a b (by omega) (by omega)]
theorem or32n {a b : Nat} (ha : a < 4294967296) (hb : b < 4294967296) : bits .or .u32 (a : Int) (b : Int) = ((a ||| b : Nat) : Int) := by
  have hx : a ||| b < 2 ^ 32 := Nat.or_lt_two_pow (by omega) (by omega)
  have h1 : (BitVec.ofInt 32 (a : Int)).toNat = a := by
    rw [BitVec.ofInt_natCast, BitVec.toNat_ofNat]; exact Nat.mod_eq_of_lt (by omega)
  have h2 : (BitVec.ofInt 32 (b : Int)).toNat = b := by
    rw [BitVec.ofInt_natCast, BitVec.toNat_ofNat]; exact Nat.mod_eq_of_lt (by omega)
  show IntKind.u32.wrap ((BitVec.ofInt 32 (a : Int) ||| BitVec.ofInt 32 (b : Int)).toNat : Int) = _
  rw [BitVec.toNat_or, h1, h2, IntKind.wrap_u32]
  omega
theorem xor32n {a b : Nat} (ha : a < 4294967296) (hb : b < 4294967296) : bits .xor .u32 (a : Int) (b : Int) = ((a ^^^ b : Nat) : Int) := by
  have hx : a ^^^ b < 2 ^ 32 := Nat.xor_lt_two_pow (by omega) (by omega)
  have h1 : (BitVec.ofInt 32 (a : Int)).toNat = a := by
    rw [BitVec.ofInt_natCast, BitVec.toNat_ofNat]; exact Nat.mod_eq_of_lt (by omega)
  have h2 : (BitVec.ofInt 32 (b : Int)).toNat = b := by
    rw [BitVec.ofInt_natCast, BitVec.toNat_ofNat]; exact Nat.mod_eq_of_lt (by omega)
  show IntKind.u32.wrap ((BitVec.ofInt 32 (a : Int) ^^^ BitVec.ofInt 32 (b : Int)).toNat : Int) = _
  rw [BitVec.toNat_xor, h1, h2, IntKind.wrap_u32]
  omega
theorem ari13s {a : Nat} (n : Nat) (hn : n ≤ 32) (ha : a < 4294967296) : bits .or .u32 (IntKind.u32.wrap ((a : Int) * 2 ^ n)) ((a : Int) / 2 ^ (32 - n)) = ((rot 32 a n : Nat) : Int) := by
  have e1 : IntKind.u32.wrap ((a : Int) * 2 ^ n) = ((a * 2 ^ n % 2 ^ 32 : Nat) : Int) := by rw [IntKind.wrap_u32]; simp
  have e2 : (a : Int) / 2 ^ (32 - n) = ((a / 2 ^ (32 - n) : Nat) : Int) := by simp
  rw [e1, e2, or32n (Nat.mod_lt _ (by decide)) (Nat.lt_of_le_of_lt (Nat.div_le_self _ _) ha), shl_or hn ha]
theorem ari14s {a : Nat} (n : Nat) (hn : n ≤ 32) (ha : a < 4294967296) : bits .or .u32 ((a : Int) / 2 ^ n) (IntKind.u32.wrap ((a : Int) * 2 ^ (32 - n))) = ((rot 32 a (32 - n) : Nat) : Int) := by
  have e1 : IntKind.u32.wrap ((a : Int) * 2 ^ (32 - n)) = ((a * 2 ^ (32 - n) % 2 ^ 32 : Nat) : Int) := by rw [IntKind.wrap_u32]; simp
  have e2 : (a : Int) / 2 ^ n = ((a / 2 ^ n : Nat) : Int) := by simp
  rw [e1, e2, or32n (Nat.lt_of_le_of_lt (Nat.div_le_self _ _) ha) (Nat.mod_lt _ (by decide)), shr_or hn ha]
theorem getD11 (k : IntKind) (W a b n : Nat) (x : Int) : (ariL k W a b n x).getD 11 0 = k.wrap (x / 2 ^ n) := by simp [ariL]
def WhPost (W d : Int) (k : Int) (a b : Nat) (w : World) (e : Ending) (w' : World) : Prop := e = .returned (.tuple #[.int .u64 (twoV 3 d k a b).1, .int .i64 (twoV 3 d k a b).2]) ∧ w = w'

theorem tw64_0 {a b : Nat} (ha : a < 18446744073709551616) (hb : b < 18446744073709551616) : twoV 3 126 0 a b = (IntKind.u64.wrap (a + b), 0) := by
  have e : twoV 3 126 0 a b = ((ariL .u64 64 a b (b % 64) (wrap64 a)).getD 0 0, 0) := by simp [twoV]
  rw [e]
  rfl
set_option maxRecDepth 100000 in
set_option maxHeartbeats 1000000 in
theorem wh64_0 {a b : Nat} (w : World) (ha : a < 18446744073709551616) (hb : b < 18446744073709551616) : Calls Tryd.prog 38 #[.int .i64 0, .int .u64 a, .int .u64 b, .int .i64 64] w (WhPost 64 126 0 a b w) := by
  have HV := Lib.hid (@tw64_0 a b ha hb)
  unfold WhPost
  rw [HV.out]
  obtain ⟨n, hn⟩ : ∃ n, b % 64 = n := ⟨_, rfl⟩
  have hn1 : n < 64 := by omega
  have hn2 : (b : Int) % 64 = (n : Int) := by omega
  have HN := Lib.hid hn
  clear hn HV
  go_enter Tryd.func38, Tryd.ntmps38
  go_wp2_with fail
  refine (low64 _ _).mono ?_
  rintro e w1 ⟨rfl, rfl⟩
  go_wp2
  go_ret2
  exact ⟨ret2_int (by first | rfl | exact mod32b _ | exact mod32a _ | exact (IntKind.wrap_u64 _)), rfl⟩
theorem tw64_1 {a b : Nat} (ha : a < 18446744073709551616) (hb : b < 18446744073709551616) : twoV 3 126 1 a b = (IntKind.u64.wrap (a - b), 0) := by
  have e : twoV 3 126 1 a b = ((ariL .u64 64 a b (b % 64) (wrap64 a)).getD 1 0, 0) := by simp [twoV]
  rw [e]
  rfl
set_option maxRecDepth 100000 in
set_option maxHeartbeats 1000000 in
theorem wh64_1 {a b : Nat} (w : World) (ha : a < 18446744073709551616) (hb : b < 18446744073709551616) : Calls Tryd.prog 38 #[.int .i64 1, .int .u64 a, .int .u64 b, .int .i64 64] w (WhPost 64 126 1 a b w) := by
  have HV := Lib.hid (@tw64_1 a b ha hb)
  unfold WhPost
  rw [HV.out]
  obtain ⟨n, hn⟩ : ∃ n, b % 64 = n := ⟨_, rfl⟩
  have hn1 : n < 64 := by omega
  have hn2 : (b : Int) % 64 = (n : Int) := by omega
  have HN := Lib.hid hn
  clear hn HV
  go_enter Tryd.func38, Tryd.ntmps38
  go_wp2_with fail
  refine (low64 _ _).mono ?_
  rintro e w1 ⟨rfl, rfl⟩
  go_wp2
  go_ret2
  exact ⟨ret2_int (by first | rfl | exact mod32b _ | exact mod32a _ | exact (IntKind.wrap_u64 _)), rfl⟩
theorem tw64_2 {a b : Nat} (ha : a < 18446744073709551616) (hb : b < 18446744073709551616) : twoV 3 126 2 a b = (IntKind.u64.wrap (a * b), 0) := by
  have e : twoV 3 126 2 a b = ((ariL .u64 64 a b (b % 64) (wrap64 a)).getD 2 0, 0) := by simp [twoV]
  rw [e]
  rfl
set_option maxRecDepth 100000 in
set_option maxHeartbeats 1000000 in
theorem wh64_2 {a b : Nat} (w : World) (ha : a < 18446744073709551616) (hb : b < 18446744073709551616) : Calls Tryd.prog 38 #[.int .i64 2, .int .u64 a, .int .u64 b, .int .i64 64] w (WhPost 64 126 2 a b w) := by
  have HV := Lib.hid (@tw64_2 a b ha hb)
  unfold WhPost
  rw [HV.out]
  obtain ⟨n, hn⟩ : ∃ n, b % 64 = n := ⟨_, rfl⟩
  have hn1 : n < 64 := by omega
  have hn2 : (b : Int) % 64 = (n : Int) := by omega
  have HN := Lib.hid hn
  clear hn HV
  go_enter Tryd.func38, Tryd.ntmps38
  go_wp2_with fail
  refine (low64 _ _).mono ?_
  rintro e w1 ⟨rfl, rfl⟩
  go_wp2
  go_ret2
  exact ⟨ret2_int (by first | rfl | exact mod32b _ | exact mod32a _ | exact (IntKind.wrap_u64 _)), rfl⟩
set_option maxRecDepth 100000 in
set_option maxHeartbeats 1000000 in
theorem wh64_3 {a b : Nat} (w : World) (ha : a < 18446744073709551616) (hb : b < 18446744073709551616) : Calls Tryd.prog 38 #[.int .i64 3, .int .u64 a, .int .u64 b, .int .i64 64] w (WhPost 64 126 3 a b w) := by
  have HV := Lib.hid (show twoV 3 126 3 a b = divV 18446744073709551616 (-9223372036854775808) ((0 : Nat) : Int) a b (wrap64 a) (wrap64 b) by simp [twoV])
  unfold WhPost
  rw [HV.out]
  obtain ⟨n, hn⟩ : ∃ n, b % 64 = n := ⟨_, rfl⟩
  have hn1 : n < 64 := by omega
  have hn2 : (b : Int) % 64 = (n : Int) := by omega
  have HN := Lib.hid hn
  clear hn HV
  go_enter Tryd.func38, Tryd.ntmps38
  go_wp2_with fail
  refine (rdiv64 0 a b _ (by omega) ha hb).mono ?_
  rintro e w1 ⟨rfl, rfl⟩
  go_wp2
  go_ret2
  exact ⟨rfl, rfl⟩
set_option maxRecDepth 100000 in
set_option maxHeartbeats 1000000 in
theorem wh64_4 {a b : Nat} (w : World) (ha : a < 18446744073709551616) (hb : b < 18446744073709551616) : Calls Tryd.prog 38 #[.int .i64 4, .int .u64 a, .int .u64 b, .int .i64 64] w (WhPost 64 126 4 a b w) := by
  have HV := Lib.hid (show twoV 3 126 4 a b = divV 18446744073709551616 (-9223372036854775808) ((1 : Nat) : Int) a b (wrap64 a) (wrap64 b) by simp [twoV])
  unfold WhPost
  rw [HV.out]
  obtain ⟨n, hn⟩ : ∃ n, b % 64 = n := ⟨_, rfl⟩
  have hn1 : n < 64 := by omega
  have hn2 : (b : Int) % 64 = (n : Int) := by omega
  have HN := Lib.hid hn
  clear hn HV
  go_enter Tryd.func38, Tryd.ntmps38
  go_wp2_with fail
  refine (rdiv64 1 a b _ (by omega) ha hb).mono ?_
  rintro e w1 ⟨rfl, rfl⟩
  go_wp2
  go_ret2
  exact ⟨rfl, rfl⟩
set_option maxRecDepth 100000 in
set_option maxHeartbeats 1000000 in
theorem wh64_5 {a b : Nat} (w : World) (ha : a < 18446744073709551616) (hb : b < 18446744073709551616) : Calls Tryd.prog 38 #[.int .i64 5, .int .u64 a, .int .u64 b, .int .i64 64] w (WhPost 64 126 5 a b w) := by
  have HV := Lib.hid (show twoV 3 126 5 a b = divV 18446744073709551616 (-9223372036854775808) ((2 : Nat) : Int) a b (wrap64 a) (wrap64 b) by simp [twoV])
  unfold WhPost
  rw [HV.out]
  obtain ⟨n, hn⟩ : ∃ n, b % 64 = n := ⟨_, rfl⟩
  have hn1 : n < 64 := by omega
  have hn2 : (b : Int) % 64 = (n : Int) := by omega
  have HN := Lib.hid hn
  clear hn HV
  go_enter Tryd.func38, Tryd.ntmps38
  go_wp2_with fail
  refine (rdiv64 2 a b _ (by omega) ha hb).mono ?_
  rintro e w1 ⟨rfl, rfl⟩
  go_wp2
  go_ret2
  exact ⟨rfl, rfl⟩
set_option maxRecDepth 100000 in
set_option maxHeartbeats 1000000 in
theorem wh64_6 {a b : Nat} (w : World) (ha : a < 18446744073709551616) (hb : b < 18446744073709551616) : Calls Tryd.prog 38 #[.int .i64 6, .int .u64 a, .int .u64 b, .int .i64 64] w (WhPost 64 126 6 a b w) := by
  have HV := Lib.hid (show twoV 3 126 6 a b = divV 18446744073709551616 (-9223372036854775808) ((3 : Nat) : Int) a b (wrap64 a) (wrap64 b) by simp [twoV])
  unfold WhPost
  rw [HV.out]
  obtain ⟨n, hn⟩ : ∃ n, b % 64 = n := ⟨_, rfl⟩
  have hn1 : n < 64 := by omega
  have hn2 : (b : Int) % 64 = (n : Int) := by omega
  have HN := Lib.hid hn
  clear hn HV
  go_enter Tryd.func38, Tryd.ntmps38
  go_wp2_with fail
  refine (rdiv64 3 a b _ (by omega) ha hb).mono ?_
  rintro e w1 ⟨rfl, rfl⟩
  go_wp2
  go_ret2
  exact ⟨rfl, rfl⟩
theorem tw64_7 {a b : Nat} (ha : a < 18446744073709551616) (hb : b < 18446744073709551616) : twoV 3 126 7 a b = (bits .and .u64 a b, 0) := by
  have e : twoV 3 126 7 a b = ((ariL .u64 64 a b (b % 64) (wrap64 a)).getD 7 0, 0) := by simp [twoV]
  rw [e]
  rfl
set_option maxRecDepth 100000 in
set_option maxHeartbeats 1000000 in
theorem wh64_7 {a b : Nat} (w : World) (ha : a < 18446744073709551616) (hb : b < 18446744073709551616) : Calls Tryd.prog 38 #[.int .i64 7, .int .u64 a, .int .u64 b, .int .i64 64] w (WhPost 64 126 7 a b w) := by
  have HV := Lib.hid (@tw64_7 a b ha hb)
  unfold WhPost
  rw [HV.out]
  obtain ⟨n, hn⟩ : ∃ n, b % 64 = n := ⟨_, rfl⟩
  have hn1 : n < 64 := by omega
  have hn2 : (b : Int) % 64 = (n : Int) := by omega
  have HN := Lib.hid hn
  clear hn HV
  go_enter Tryd.func38, Tryd.ntmps38
  go_wp2
  go_ret2
  exact ⟨ret2_int (by first | rfl | exact mod32b _ | exact mod32a _ | exact (IntKind.wrap_u64 _)), rfl⟩
theorem tw64_8 {a b : Nat} (ha : a < 18446744073709551616) (hb : b < 18446744073709551616) : twoV 3 126 8 a b = (bits .or .u64 a b, 0) := by
  have e : twoV 3 126 8 a b = ((ariL .u64 64 a b (b % 64) (wrap64 a)).getD 8 0, 0) := by simp [twoV]
  rw [e]
  rfl
set_option maxRecDepth 100000 in
set_option maxHeartbeats 1000000 in
theorem wh64_8 {a b : Nat} (w : World) (ha : a < 18446744073709551616) (hb : b < 18446744073709551616) : Calls Tryd.prog 38 #[.int .i64 8, .int .u64 a, .int .u64 b, .int .i64 64] w (WhPost 64 126 8 a b w) := by
  have HV := Lib.hid (@tw64_8 a b ha hb)
  unfold WhPost
  rw [HV.out]
  obtain ⟨n, hn⟩ : ∃ n, b % 64 = n := ⟨_, rfl⟩
  have hn1 : n < 64 := by omega
  have hn2 : (b : Int) % 64 = (n : Int) := by omega
  have HN := Lib.hid hn
  clear hn HV
  go_enter Tryd.func38, Tryd.ntmps38
  go_wp2
  go_ret2
  exact ⟨ret2_int (by first | rfl | exact mod32b _ | exact mod32a _ | exact (IntKind.wrap_u64 _)), rfl⟩
theorem tw64_9 {a b : Nat} (ha : a < 18446744073709551616) (hb : b < 18446744073709551616) : twoV 3 126 9 a b = (bits .xor .u64 a b, 0) := by
  have e : twoV 3 126 9 a b = ((ariL .u64 64 a b (b % 64) (wrap64 a)).getD 9 0, 0) := by simp [twoV]
  rw [e]
  rfl
set_option maxRecDepth 100000 in
set_option maxHeartbeats 1000000 in
theorem wh64_9 {a b : Nat} (w : World) (ha : a < 18446744073709551616) (hb : b < 18446744073709551616) : Calls Tryd.prog 38 #[.int .i64 9, .int .u64 a, .int .u64 b, .int .i64 64] w (WhPost 64 126 9 a b w) := by
  have HV := Lib.hid (@tw64_9 a b ha hb)
  unfold WhPost
  rw [HV.out]
  obtain ⟨n, hn⟩ : ∃ n, b % 64 = n := ⟨_, rfl⟩
  have hn1 : n < 64 := by omega
  have hn2 : (b : Int) % 64 = (n : Int) := by omega
  have HN := Lib.hid hn
  clear hn HV
  go_enter Tryd.func38, Tryd.ntmps38
  go_wp2
  go_ret2
  exact ⟨ret2_int (by first | rfl | exact mod32b _ | exact mod32a _ | exact (IntKind.wrap_u64 _)), rfl⟩
theorem tw64_10 {a b : Nat} (ha : a < 18446744073709551616) (hb : b < 18446744073709551616) : twoV 3 126 10 a b = (IntKind.u64.wrap (a * 2 ^ (b % 64)), 0) := by
  have e : twoV 3 126 10 a b = ((ariL .u64 64 a b (b % 64) (wrap64 a)).getD 10 0, 0) := by simp [twoV]
  rw [e]
  rfl
set_option maxRecDepth 100000 in
set_option maxHeartbeats 1000000 in
theorem wh64_10 {a b : Nat} (w : World) (ha : a < 18446744073709551616) (hb : b < 18446744073709551616) : Calls Tryd.prog 38 #[.int .i64 10, .int .u64 a, .int .u64 b, .int .i64 64] w (WhPost 64 126 10 a b w) := by
  have HV := Lib.hid (@tw64_10 a b ha hb)
  unfold WhPost
  rw [HV.out]
  obtain ⟨n, hn⟩ : ∃ n, b % 64 = n := ⟨_, rfl⟩
  have hn1 : n < 64 := by omega
  have hn2 : (b : Int) % 64 = (n : Int) := by omega
  have HN := Lib.hid hn
  rw [hn]
  clear hn HV
  go_enter Tryd.func38, Tryd.ntmps38
  go_wp2_with fail
  refine (low64 _ _).mono ?_
  rintro e w1 ⟨rfl, rfl⟩
  go_wp2
  go_ret2
  exact ⟨ret2_int (by first | rfl | exact mod32b _ | exact mod32a _ | exact (IntKind.wrap_u64 _)), rfl⟩
theorem tw64_11 {a b : Nat} (ha : a < 18446744073709551616) (hb : b < 18446744073709551616) : twoV 3 126 11 a b = (IntKind.u64.wrap (wrap64 a / 2 ^ (b % 64)), 0) := by
  have e : twoV 3 126 11 a b = ((ariL .u64 64 a b (b % 64) (wrap64 a)).getD 11 0, 0) := by
    simp only [twoV]
    rw [if_pos trivial, if_neg (by decide), if_neg (by decide)]
    rfl
  rw [e, getD11]

set_option maxRecDepth 100000 in
set_option maxHeartbeats 1000000 in
theorem wh64_11 {a b : Nat} (w : World) (ha : a < 18446744073709551616) (hb : b < 18446744073709551616) : Calls Tryd.prog 38 #[.int .i64 11, .int .u64 a, .int .u64 b, .int .i64 64] w (WhPost 64 126 11 a b w) := by
  have HV := Lib.hid (@tw64_11 a b ha hb)
  unfold WhPost
  rw [HV.out]
  obtain ⟨n, hn⟩ : ∃ n, b % 64 = n := ⟨_, rfl⟩
  have hn1 : n < 64 := by omega
  have hn2 : (b : Int) % 64 = (n : Int) := by omega
  have HN := Lib.hid hn
  rw [hn]
  clear hn HV
  go_enter Tryd.func38, Tryd.ntmps38
  go_wp2_with fail
  refine (signed64 (a : Int) _ (by omega) (by omega)).mono ?_
  rintro e w1 ⟨rfl, rfl⟩
  go_wp2_with fail
  refine (low64 _ _).mono ?_
  rintro e w1 ⟨rfl, rfl⟩
  go_wp2
  go_ret2
  exact ⟨ret2_int (by first | rfl | exact mod32b _ | exact mod32a _ | exact (IntKind.wrap_u64 _)), rfl⟩
theorem tw64_12 {a b : Nat} (ha : a < 18446744073709551616) (hb : b < 18446744073709551616) : twoV 3 126 12 a b = ((a : Int) / 2 ^ (b % 64), 0) := by
  have e : twoV 3 126 12 a b = ((ariL .u64 64 a b (b % 64) (wrap64 a)).getD 12 0, 0) := by simp [twoV]
  rw [e]
  rfl
set_option maxRecDepth 100000 in
set_option maxHeartbeats 1000000 in
theorem wh64_12 {a b : Nat} (w : World) (ha : a < 18446744073709551616) (hb : b < 18446744073709551616) : Calls Tryd.prog 38 #[.int .i64 12, .int .u64 a, .int .u64 b, .int .i64 64] w (WhPost 64 126 12 a b w) := by
  have HV := Lib.hid (@tw64_12 a b ha hb)
  unfold WhPost
  rw [HV.out]
  obtain ⟨n, hn⟩ : ∃ n, b % 64 = n := ⟨_, rfl⟩
  have hn1 : n < 64 := by omega
  have hn2 : (b : Int) % 64 = (n : Int) := by omega
  have HN := Lib.hid hn
  rw [hn]
  clear hn HV
  go_enter Tryd.func38, Tryd.ntmps38
  go_wp2
  go_ret2
  exact ⟨ret2_int (by first | rfl | exact mod32b _ | exact mod32a _ | exact (IntKind.wrap_u64 _)), rfl⟩
theorem tw64_13 {a b : Nat} (ha : a < 18446744073709551616) (hb : b < 18446744073709551616) : twoV 3 126 13 a b = (((rot 64 a (b % 64) : Nat) : Int), 0) := by
  have e : twoV 3 126 13 a b = ((ariL .u64 64 a b (b % 64) (wrap64 a)).getD 13 0, 0) := by simp [twoV]
  rw [e]
  exact congrArg (·, 0) (ari13 (b := b) (b % 64) (by omega) ha)
set_option maxRecDepth 100000 in
set_option maxHeartbeats 1000000 in
theorem wh64_13 {a b : Nat} (w : World) (ha : a < 18446744073709551616) (hb : b < 18446744073709551616) : Calls Tryd.prog 38 #[.int .i64 13, .int .u64 a, .int .u64 b, .int .i64 64] w (WhPost 64 126 13 a b w) := by
  have HV := Lib.hid (@tw64_13 a b ha hb)
  unfold WhPost
  rw [HV.out]
  obtain ⟨n, hn⟩ : ∃ n, b % 64 = n := ⟨_, rfl⟩
  have hn1 : n < 64 := by omega
  have hn2 : (b : Int) % 64 = (n : Int) := by omega
  have HN := Lib.hid hn
  rw [hn]
  clear hn HV
  go_enter Tryd.func38, Tryd.ntmps38
  go_wp2_with fail
  refine (turned64 a n _ (by omega) ha).mono ?_
  rintro e w1 ⟨rfl, rfl⟩
  go_wp2
  go_ret2
  exact ⟨ret2_int (by first | rfl | exact mod32b _ | exact mod32a _ | exact (IntKind.wrap_u64 _)), rfl⟩
theorem tw64_14 {a b : Nat} (ha : a < 18446744073709551616) (hb : b < 18446744073709551616) : twoV 3 126 14 a b = (((rot 64 a (64 - b % 64) : Nat) : Int), 0) := by
  have e : twoV 3 126 14 a b = ((ariL .u64 64 a b (b % 64) (wrap64 a)).getD 14 0, 0) := by simp [twoV]
  rw [e]
  exact congrArg (·, 0) (ari14 (b := b) (b % 64) (by omega) ha)
set_option maxRecDepth 100000 in
set_option maxHeartbeats 1000000 in
theorem wh64_14 {a b : Nat} (w : World) (ha : a < 18446744073709551616) (hb : b < 18446744073709551616) : Calls Tryd.prog 38 #[.int .i64 14, .int .u64 a, .int .u64 b, .int .i64 64] w (WhPost 64 126 14 a b w) := by
  have HV := Lib.hid (@tw64_14 a b ha hb)
  unfold WhPost
  rw [HV.out]
  obtain ⟨n, hn⟩ : ∃ n, b % 64 = n := ⟨_, rfl⟩
  have hn1 : n < 64 := by omega
  have hn2 : (b : Int) % 64 = (n : Int) := by omega
  have HN := Lib.hid hn
  rw [hn]
  clear hn HV
  go_enter Tryd.func38, Tryd.ntmps38
  have hs : (64 : Int) - (n : Int) = ((64 - n : Nat) : Int) := by omega
  go_wp2_with fail
  refine (turned64 a (64 - n) _ (by omega) ha).mono ?_
  rintro e w1 ⟨rfl, rfl⟩
  go_wp2
  go_ret2
  exact ⟨ret2_int (by first | rfl | exact mod32b _ | exact mod32a _ | exact (IntKind.wrap_u64 _)), rfl⟩
theorem whole64 (k a b : Nat) (w : World) (hk : k < 15) (ha : a < 18446744073709551616) (hb : b < 18446744073709551616) : Calls Tryd.prog 38 #[.int .i64 k, .int .u64 a, .int .u64 b, .int .i64 64] w (WhPost 64 126 k a b w) := by
  have hc : k = 0 ∨ k = 1 ∨ k = 2 ∨ k = 3 ∨ k = 4 ∨ k = 5 ∨ k = 6 ∨ k = 7 ∨ k = 8 ∨ k = 9 ∨ k = 10 ∨ k = 11 ∨ k = 12 ∨ k = 13 ∨ k = 14 := by omega
  rcases hc with rfl | rfl | rfl | rfl | rfl | rfl | rfl | rfl | rfl | rfl | rfl | rfl | rfl | rfl | rfl
  · exact wh64_0 w ha hb
  · exact wh64_1 w ha hb
  · exact wh64_2 w ha hb
  · exact wh64_3 w ha hb
  · exact wh64_4 w ha hb
  · exact wh64_5 w ha hb
  · exact wh64_6 w ha hb
  · exact wh64_7 w ha hb
  · exact wh64_8 w ha hb
  · exact wh64_9 w ha hb
  · exact wh64_10 w ha hb
  · exact wh64_11 w ha hb
  · exact wh64_12 w ha hb
  · exact wh64_13 w ha hb
  · exact wh64_14 w ha hb
theorem tw32_0 {a b : Nat} (ha : a < 4294967296) (hb : b < 4294967296) : twoV 3 127 0 a b = (((a : Int) + b) % 4294967296, 0) := by
  have e : twoV 3 127 0 a b = ((ariL .u32 32 a b (b % 32) (wrap32 a)).getD 0 0, 0) := by simp [twoV]
  rw [e]
  exact congrArg (·, 0) (IntKind.wrap_u32 _)
set_option maxRecDepth 100000 in
set_option maxHeartbeats 1000000 in
theorem wh32_0 {a b : Nat} (w : World) (ha : a < 4294967296) (hb : b < 4294967296) : Calls Tryd.prog 38 #[.int .i64 0, .int .u64 a, .int .u64 b, .int .i64 32] w (WhPost 32 127 0 a b w) := by
  have HV := Lib.hid (@tw32_0 a b ha hb)
  unfold WhPost
  rw [HV.out]
  obtain ⟨n, hn⟩ : ∃ n, b % 32 = n := ⟨_, rfl⟩
  have hn1 : n < 32 := by omega
  have hn2 : (b : Int) % 32 = (n : Int) := by omega
  have HN := Lib.hid hn
  clear hn HV
  go_enter Tryd.func38, Tryd.ntmps38
  go_wp2_with fail
  refine (low32 _ _ (by first | omega | exact (u64w_rng _).1) (by first | omega | exact (u64w_rng _).2)).mono ?_
  rintro e w1 ⟨rfl, rfl⟩
  go_wp2
  go_ret2
  exact ⟨ret2_int (by first | rfl | exact mod32b _ | exact mod32a _ | exact (IntKind.wrap_u64 _)), rfl⟩
theorem tw32_1 {a b : Nat} (ha : a < 4294967296) (hb : b < 4294967296) : twoV 3 127 1 a b = (((a : Int) - b) % 4294967296, 0) := by
  have e : twoV 3 127 1 a b = ((ariL .u32 32 a b (b % 32) (wrap32 a)).getD 1 0, 0) := by simp [twoV]
  rw [e]
  exact congrArg (·, 0) (IntKind.wrap_u32 _)
set_option maxRecDepth 100000 in
set_option maxHeartbeats 1000000 in
theorem wh32_1 {a b : Nat} (w : World) (ha : a < 4294967296) (hb : b < 4294967296) : Calls Tryd.prog 38 #[.int .i64 1, .int .u64 a, .int .u64 b, .int .i64 32] w (WhPost 32 127 1 a b w) := by
  have HV := Lib.hid (@tw32_1 a b ha hb)
  unfold WhPost
  rw [HV.out]
  obtain ⟨n, hn⟩ : ∃ n, b % 32 = n := ⟨_, rfl⟩
  have hn1 : n < 32 := by omega
  have hn2 : (b : Int) % 32 = (n : Int) := by omega
  have HN := Lib.hid hn
  clear hn HV
  go_enter Tryd.func38, Tryd.ntmps38
  go_wp2_with fail
  refine (low32 _ _ (by first | omega | exact (u64w_rng _).1) (by first | omega | exact (u64w_rng _).2)).mono ?_
  rintro e w1 ⟨rfl, rfl⟩
  go_wp2
  go_ret2
  exact ⟨ret2_int (by first | rfl | exact mod32b _ | exact mod32a _ | exact (IntKind.wrap_u64 _)), rfl⟩
theorem tw32_2 {a b : Nat} (ha : a < 4294967296) (hb : b < 4294967296) : twoV 3 127 2 a b = (((a : Int) * b) % 4294967296, 0) := by
  have e : twoV 3 127 2 a b = ((ariL .u32 32 a b (b % 32) (wrap32 a)).getD 2 0, 0) := by simp [twoV]
  rw [e]
  exact congrArg (·, 0) (IntKind.wrap_u32 _)
set_option maxRecDepth 100000 in
set_option maxHeartbeats 1000000 in
theorem wh32_2 {a b : Nat} (w : World) (ha : a < 4294967296) (hb : b < 4294967296) : Calls Tryd.prog 38 #[.int .i64 2, .int .u64 a, .int .u64 b, .int .i64 32] w (WhPost 32 127 2 a b w) := by
  have HV := Lib.hid (@tw32_2 a b ha hb)
  unfold WhPost
  rw [HV.out]
  obtain ⟨n, hn⟩ : ∃ n, b % 32 = n := ⟨_, rfl⟩
  have hn1 : n < 32 := by omega
  have hn2 : (b : Int) % 32 = (n : Int) := by omega
  have HN := Lib.hid hn
  clear hn HV
  go_enter Tryd.func38, Tryd.ntmps38
  go_wp2_with fail
  refine (low32 _ _ (by first | omega | exact (u64w_rng _).1) (by first | omega | exact (u64w_rng _).2)).mono ?_
  rintro e w1 ⟨rfl, rfl⟩
  go_wp2
  go_ret2
  exact ⟨ret2_int (by first | rfl | exact mod32b _ | exact mod32a _ | exact (IntKind.wrap_u64 _)), rfl⟩
set_option maxRecDepth 100000 in
set_option maxHeartbeats 1000000 in
theorem wh32_3 {a b : Nat} (w : World) (ha : a < 4294967296) (hb : b < 4294967296) : Calls Tryd.prog 38 #[.int .i64 3, .int .u64 a, .int .u64 b, .int .i64 32] w (WhPost 32 127 3 a b w) := by
  have HV := Lib.hid (show twoV 3 127 3 a b = divV 4294967296 (-2147483648) ((0 : Nat) : Int) a b (wrap32 a) (wrap32 b) by simp [twoV])
  unfold WhPost
  rw [HV.out]
  obtain ⟨n, hn⟩ : ∃ n, b % 32 = n := ⟨_, rfl⟩
  have hn1 : n < 32 := by omega
  have hn2 : (b : Int) % 32 = (n : Int) := by omega
  have HN := Lib.hid hn
  clear hn HV
  go_enter Tryd.func38, Tryd.ntmps38
  go_wp2_with fail
  refine (rdiv32 0 a b _ (by omega) ha hb).mono ?_
  rintro e w1 ⟨rfl, rfl⟩
  go_wp2
  go_ret2
  exact ⟨rfl, rfl⟩
set_option maxRecDepth 100000 in
set_option maxHeartbeats 1000000 in
theorem wh32_4 {a b : Nat} (w : World) (ha : a < 4294967296) (hb : b < 4294967296) : Calls Tryd.prog 38 #[.int .i64 4, .int .u64 a, .int .u64 b, .int .i64 32] w (WhPost 32 127 4 a b w) := by
  have HV := Lib.hid (show twoV 3 127 4 a b = divV 4294967296 (-2147483648) ((1 : Nat) : Int) a b (wrap32 a) (wrap32 b) by simp [twoV])
  unfold WhPost
  rw [HV.out]
  obtain ⟨n, hn⟩ : ∃ n, b % 32 = n := ⟨_, rfl⟩
  have hn1 : n < 32 := by omega
  have hn2 : (b : Int) % 32 = (n : Int) := by omega
  have HN := Lib.hid hn
  clear hn HV
  go_enter Tryd.func38, Tryd.ntmps38
  go_wp2_with fail
  refine (rdiv32 1 a b _ (by omega) ha hb).mono ?_
  rintro e w1 ⟨rfl, rfl⟩
  go_wp2
  go_ret2
  exact ⟨rfl, rfl⟩
set_option maxRecDepth 100000 in
set_option maxHeartbeats 1000000 in
theorem wh32_5 {a b : Nat} (w : World) (ha : a < 4294967296) (hb : b < 4294967296) : Calls Tryd.prog 38 #[.int .i64 5, .int .u64 a, .int .u64 b, .int .i64 32] w (WhPost 32 127 5 a b w) := by
  have HV := Lib.hid (show twoV 3 127 5 a b = divV 4294967296 (-2147483648) ((2 : Nat) : Int) a b (wrap32 a) (wrap32 b) by simp [twoV])
  unfold WhPost
  rw [HV.out]
  obtain ⟨n, hn⟩ : ∃ n, b % 32 = n := ⟨_, rfl⟩
  have hn1 : n < 32 := by omega
  have hn2 : (b : Int) % 32 = (n : Int) := by omega
  have HN := Lib.hid hn
  clear hn HV
  go_enter Tryd.func38, Tryd.ntmps38
  go_wp2_with fail
  refine (rdiv32 2 a b _ (by omega) ha hb).mono ?_
  rintro e w1 ⟨rfl, rfl⟩
  go_wp2
  go_ret2
  exact ⟨rfl, rfl⟩
set_option maxRecDepth 100000 in
set_option maxHeartbeats 1000000 in
theorem wh32_6 {a b : Nat} (w : World) (ha : a < 4294967296) (hb : b < 4294967296) : Calls Tryd.prog 38 #[.int .i64 6, .int .u64 a, .int .u64 b, .int .i64 32] w (WhPost 32 127 6 a b w) := by
  have HV := Lib.hid (show twoV 3 127 6 a b = divV 4294967296 (-2147483648) ((3 : Nat) : Int) a b (wrap32 a) (wrap32 b) by simp [twoV])
  unfold WhPost
  rw [HV.out]
  obtain ⟨n, hn⟩ : ∃ n, b % 32 = n := ⟨_, rfl⟩
  have hn1 : n < 32 := by omega
  have hn2 : (b : Int) % 32 = (n : Int) := by omega
  have HN := Lib.hid hn
  clear hn HV
  go_enter Tryd.func38, Tryd.ntmps38
  go_wp2_with fail
  refine (rdiv32 3 a b _ (by omega) ha hb).mono ?_
  rintro e w1 ⟨rfl, rfl⟩
  go_wp2
  go_ret2
  exact ⟨rfl, rfl⟩
theorem tw32_7 {a b : Nat} (ha : a < 4294967296) (hb : b < 4294967296) : twoV 3 127 7 a b = (bits .and .u64 a b, 0) := by
  have e : twoV 3 127 7 a b = ((ariL .u32 32 a b (b % 32) (wrap32 a)).getD 7 0, 0) := by simp [twoV]
  rw [e]
  exact congrArg (·, 0) (and32n ha hb)
set_option maxRecDepth 100000 in
set_option maxHeartbeats 1000000 in
theorem wh32_7 {a b : Nat} (w : World) (ha : a < 4294967296) (hb : b < 4294967296) : Calls Tryd.prog 38 #[.int .i64 7, .int .u64 a, .int .u64 b, .int .i64 32] w (WhPost 32 127 7 a b w) := by
  have HV := Lib.hid (@tw32_7 a b ha hb)
  unfold WhPost
  rw [HV.out]
  obtain ⟨n, hn⟩ : ∃ n, b % 32 = n := ⟨_, rfl⟩
  have hn1 : n < 32 := by omega
  have hn2 : (b : Int) % 32 = (n : Int) := by omega
  have HN := Lib.hid hn
  clear hn HV
  go_enter Tryd.func38, Tryd.ntmps38
  go_wp2
  go_ret2
  exact ⟨ret2_int (by first | rfl | exact mod32b _ | exact mod32a _ | exact (IntKind.wrap_u64 _)), rfl⟩
theorem tw32_8 {a b : Nat} (ha : a < 4294967296) (hb : b < 4294967296) : twoV 3 127 8 a b = (bits .or .u64 a b, 0) := by
  have e : twoV 3 127 8 a b = ((ariL .u32 32 a b (b % 32) (wrap32 a)).getD 8 0, 0) := by simp [twoV]
  rw [e]
  exact congrArg (·, 0) ((or32n ha hb).trans (bits_or_u64_nat a b (by omega) (by omega)).symm)
set_option maxRecDepth 100000 in
set_option maxHeartbeats 1000000 in
theorem wh32_8 {a b : Nat} (w : World) (ha : a < 4294967296) (hb : b < 4294967296) : Calls Tryd.prog 38 #[.int .i64 8, .int .u64 a, .int .u64 b, .int .i64 32] w (WhPost 32 127 8 a b w) := by
  have HV := Lib.hid (@tw32_8 a b ha hb)
  unfold WhPost
  rw [HV.out]
  obtain ⟨n, hn⟩ : ∃ n, b % 32 = n := ⟨_, rfl⟩
  have hn1 : n < 32 := by omega
  have hn2 : (b : Int) % 32 = (n : Int) := by omega
  have HN := Lib.hid hn
  clear hn HV
  go_enter Tryd.func38, Tryd.ntmps38
  go_wp2
  go_ret2
  exact ⟨ret2_int (by first | rfl | exact mod32b _ | exact mod32a _ | exact (IntKind.wrap_u64 _)), rfl⟩
theorem tw32_9 {a b : Nat} (ha : a < 4294967296) (hb : b < 4294967296) : twoV 3 127 9 a b = (bits .xor .u64 a b, 0) := by
  have e : twoV 3 127 9 a b = ((ariL .u32 32 a b (b % 32) (wrap32 a)).getD 9 0, 0) := by simp [twoV]
  rw [e]
  exact congrArg (·, 0) ((xor32n ha hb).trans (bits_xor_u64_nat a b (by omega) (by omega)).symm)
set_option maxRecDepth 100000 in
set_option maxHeartbeats 1000000 in
theorem wh32_9 {a b : Nat} (w : World) (ha : a < 4294967296) (hb : b < 4294967296) : Calls Tryd.prog 38 #[.int .i64 9, .int .u64 a, .int .u64 b, .int .i64 32] w (WhPost 32 127 9 a b w) := by
  have HV := Lib.hid (@tw32_9 a b ha hb)
  unfold WhPost
  rw [HV.out]
  obtain ⟨n, hn⟩ : ∃ n, b % 32 = n := ⟨_, rfl⟩
  have hn1 : n < 32 := by omega
  have hn2 : (b : Int) % 32 = (n : Int) := by omega
  have HN := Lib.hid hn
  clear hn HV
  go_enter Tryd.func38, Tryd.ntmps38
  go_wp2
  go_ret2
  exact ⟨ret2_int (by first | rfl | exact mod32b _ | exact mod32a _ | exact (IntKind.wrap_u64 _)), rfl⟩
theorem tw32_10 {a b : Nat} (ha : a < 4294967296) (hb : b < 4294967296) : twoV 3 127 10 a b = (((a : Int) * 2 ^ (b % 32)) % 4294967296, 0) := by
  have e : twoV 3 127 10 a b = ((ariL .u32 32 a b (b % 32) (wrap32 a)).getD 10 0, 0) := by simp [twoV]
  rw [e]
  exact congrArg (·, 0) (IntKind.wrap_u32 _)
set_option maxRecDepth 100000 in
set_option maxHeartbeats 1000000 in
theorem wh32_10 {a b : Nat} (w : World) (ha : a < 4294967296) (hb : b < 4294967296) : Calls Tryd.prog 38 #[.int .i64 10, .int .u64 a, .int .u64 b, .int .i64 32] w (WhPost 32 127 10 a b w) := by
  have HV := Lib.hid (@tw32_10 a b ha hb)
  unfold WhPost
  rw [HV.out]
  obtain ⟨n, hn⟩ : ∃ n, b % 32 = n := ⟨_, rfl⟩
  have hn1 : n < 32 := by omega
  have hn2 : (b : Int) % 32 = (n : Int) := by omega
  have HN := Lib.hid hn
  rw [hn]
  clear hn HV
  go_enter Tryd.func38, Tryd.ntmps38
  go_wp2_with fail
  refine (low32 _ _ (by first | omega | exact (u64w_rng _).1) (by first | omega | exact (u64w_rng _).2)).mono ?_
  rintro e w1 ⟨rfl, rfl⟩
  go_wp2
  go_ret2
  exact ⟨ret2_int (by first | rfl | exact mod32b _ | exact mod32a _ | exact (IntKind.wrap_u64 _)), rfl⟩
theorem tw32_11 {a b : Nat} (ha : a < 4294967296) (hb : b < 4294967296) : twoV 3 127 11 a b = ((wrap32 a / 2 ^ (b % 32)) % 4294967296, 0) := by
  have e : twoV 3 127 11 a b = ((ariL .u32 32 a b (b % 32) (wrap32 a)).getD 11 0, 0) := by
    simp only [twoV]
    rw [if_neg (by decide), if_neg (by decide), if_neg (by decide)]
    rfl
  rw [e, getD11]
  rw [IntKind.wrap_u32]
set_option maxRecDepth 100000 in
set_option maxHeartbeats 1000000 in
theorem wh32_11 {a b : Nat} (w : World) (ha : a < 4294967296) (hb : b < 4294967296) : Calls Tryd.prog 38 #[.int .i64 11, .int .u64 a, .int .u64 b, .int .i64 32] w (WhPost 32 127 11 a b w) := by
  have HV := Lib.hid (@tw32_11 a b ha hb)
  unfold WhPost
  rw [HV.out]
  obtain ⟨n, hn⟩ : ∃ n, b % 32 = n := ⟨_, rfl⟩
  have hn1 : n < 32 := by omega
  have hn2 : (b : Int) % 32 = (n : Int) := by omega
  have HN := Lib.hid hn
  rw [hn]
  clear hn HV
  go_enter Tryd.func38, Tryd.ntmps38
  go_wp2_with fail
  refine (signed32 (a : Int) _ (by omega) (by omega)).mono ?_
  rintro e w1 ⟨rfl, rfl⟩
  go_wp2_with fail
  refine (low32 _ _ (by first | omega | exact (u64w_rng _).1) (by first | omega | exact (u64w_rng _).2)).mono ?_
  rintro e w1 ⟨rfl, rfl⟩
  go_wp2
  go_ret2
  exact ⟨ret2_int (by first | rfl | exact mod32b _ | exact mod32a _ | exact (IntKind.wrap_u64 _)), rfl⟩
theorem tw32_12 {a b : Nat} (ha : a < 4294967296) (hb : b < 4294967296) : twoV 3 127 12 a b = ((a : Int) / 2 ^ (b % 32), 0) := by
  have e : twoV 3 127 12 a b = ((ariL .u32 32 a b (b % 32) (wrap32 a)).getD 12 0, 0) := by simp [twoV]
  rw [e]
  rfl
set_option maxRecDepth 100000 in
set_option maxHeartbeats 1000000 in
theorem wh32_12 {a b : Nat} (w : World) (ha : a < 4294967296) (hb : b < 4294967296) : Calls Tryd.prog 38 #[.int .i64 12, .int .u64 a, .int .u64 b, .int .i64 32] w (WhPost 32 127 12 a b w) := by
  have HV := Lib.hid (@tw32_12 a b ha hb)
  unfold WhPost
  rw [HV.out]
  obtain ⟨n, hn⟩ : ∃ n, b % 32 = n := ⟨_, rfl⟩
  have hn1 : n < 32 := by omega
  have hn2 : (b : Int) % 32 = (n : Int) := by omega
  have HN := Lib.hid hn
  rw [hn]
  clear hn HV
  go_enter Tryd.func38, Tryd.ntmps38
  go_wp2
  go_ret2
  exact ⟨ret2_int (by first | rfl | exact mod32b _ | exact mod32a _ | exact (IntKind.wrap_u64 _)), rfl⟩
theorem tw32_13 {a b : Nat} (ha : a < 4294967296) (hb : b < 4294967296) : twoV 3 127 13 a b = (((rot 32 a (b % 32) : Nat) : Int), 0) := by
  have e : twoV 3 127 13 a b = ((ariL .u32 32 a b (b % 32) (wrap32 a)).getD 13 0, 0) := by simp [twoV]
  rw [e]
  exact congrArg (·, 0) (ari13s (b % 32) (by omega) ha)
set_option maxRecDepth 100000 in
set_option maxHeartbeats 1000000 in
theorem wh32_13 {a b : Nat} (w : World) (ha : a < 4294967296) (hb : b < 4294967296) : Calls Tryd.prog 38 #[.int .i64 13, .int .u64 a, .int .u64 b, .int .i64 32] w (WhPost 32 127 13 a b w) := by
  have HV := Lib.hid (@tw32_13 a b ha hb)
  unfold WhPost
  rw [HV.out]
  obtain ⟨n, hn⟩ : ∃ n, b % 32 = n := ⟨_, rfl⟩
  have hn1 : n < 32 := by omega
  have hn2 : (b : Int) % 32 = (n : Int) := by omega
  have HN := Lib.hid hn
  rw [hn]
  clear hn HV
  go_enter Tryd.func38, Tryd.ntmps38
  go_wp2_with fail
  refine (turned32 a n _ (by omega) ha).mono ?_
  rintro e w1 ⟨rfl, rfl⟩
  go_wp2
  go_ret2
  exact ⟨ret2_int (by first | rfl | exact mod32b _ | exact mod32a _ | exact (IntKind.wrap_u64 _)), rfl⟩
theorem tw32_14 {a b : Nat} (ha : a < 4294967296) (hb : b < 4294967296) : twoV 3 127 14 a b = (((rot 32 a (32 - b % 32) : Nat) : Int), 0) := by
  have e : twoV 3 127 14 a b = ((ariL .u32 32 a b (b % 32) (wrap32 a)).getD 14 0, 0) := by simp [twoV]
  rw [e]
  exact congrArg (·, 0) (ari14s (b % 32) (by omega) ha)
set_option maxRecDepth 100000 in
set_option maxHeartbeats 1000000 in
theorem wh32_14 {a b : Nat} (w : World) (ha : a < 4294967296) (hb : b < 4294967296) : Calls Tryd.prog 38 #[.int .i64 14, .int .u64 a, .int .u64 b, .int .i64 32] w (WhPost 32 127 14 a b w) := by
  have HV := Lib.hid (@tw32_14 a b ha hb)
  unfold WhPost
  rw [HV.out]
  obtain ⟨n, hn⟩ : ∃ n, b % 32 = n := ⟨_, rfl⟩
  have hn1 : n < 32 := by omega
  have hn2 : (b : Int) % 32 = (n : Int) := by omega
  have HN := Lib.hid hn
  rw [hn]
  clear hn HV
  go_enter Tryd.func38, Tryd.ntmps38
  have hs : (32 : Int) - (n : Int) = ((32 - n : Nat) : Int) := by omega
  go_wp2_with fail
  refine (turned32 a (32 - n) _ (by omega) ha).mono ?_
  rintro e w1 ⟨rfl, rfl⟩
  go_wp2
  go_ret2
  exact ⟨ret2_int (by first | rfl | exact mod32b _ | exact mod32a _ | exact (IntKind.wrap_u64 _)), rfl⟩
theorem whole32 (k a b : Nat) (w : World) (hk : k < 15) (ha : a < 4294967296) (hb : b < 4294967296) : Calls Tryd.prog 38 #[.int .i64 k, .int .u64 a, .int .u64 b, .int .i64 32] w (WhPost 32 127 k a b w) := by
  have hc : k = 0 ∨ k = 1 ∨ k = 2 ∨ k = 3 ∨ k = 4 ∨ k = 5 ∨ k = 6 ∨ k = 7 ∨ k = 8 ∨ k = 9 ∨ k = 10 ∨ k = 11 ∨ k = 12 ∨ k = 13 ∨ k = 14 := by omega
  rcases hc with rfl | rfl | rfl | rfl | rfl | rfl | rfl | rfl | rfl | rfl | rfl | rfl | rfl | rfl | rfl
  · exact wh32_0 w ha hb
  · exact wh32_1 w ha hb
  · exact wh32_2 w ha hb
  · exact wh32_3 w ha hb
  · exact wh32_4 w ha hb
  · exact wh32_5 w ha hb
  · exact wh32_6 w ha hb
  · exact wh32_7 w ha hb
  · exact wh32_8 w ha hb
  · exact wh32_9 w ha hb
  · exact wh32_10 w ha hb
  · exact wh32_11 w ha hb
  · exact wh32_12 w ha hb
  · exact wh32_13 w ha hb
  · exact wh32_14 w ha hb
end Go.Proofs.YtpfbdaemdghogaaDoor
