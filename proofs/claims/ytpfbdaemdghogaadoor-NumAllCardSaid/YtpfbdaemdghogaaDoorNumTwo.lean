/-
  What comes of two numbers: num.relations, num.arithmetic, num.divide.
  Conditions: the numbers fit their types.
-/
import Derived.Test.YtpfbdaemdghogaaDoorNumSig
namespace Go.Bk.Num
open Go
/-- the comparisons of two numbers, and of two signed ones -/
def relL (a b : Nat) (x y : Int) : List Bool := [(a : Int) == b, (a : Int) != b, decide (x < y), decide (a < b), decide (y < x), decide (b < a), decide (x ≤ y), decide (a ≤ b), decide (y ≤ x), decide (b ≤ a)]
/-- what is computed of two numbers of W bits, from the sum on -/
def ariL (k : IntKind) (W a b by_ : Nat) (x : Int) : List Int := [k.wrap (a + b), k.wrap (a - b), k.wrap (a * b), 0, 0, 0, 0, bits .and k a b, bits .or k a b, bits .xor k a b, k.wrap (a * 2 ^ by_), k.wrap (x / 2 ^ by_), (a : Int) / 2 ^ by_,
  bits .or k (k.wrap (a * 2 ^ by_)) ((a : Int) / 2 ^ (W - by_)), bits .or k ((a : Int) / 2 ^ by_) (k.wrap (a * 2 ^ (W - by_)))]
/-- a division's answer, by its place -/
def divV (M least k : Int) (a b : Nat) (x y : Int) : Int × Int :=
  if b = 0 then (0, 33) else if k = 0 then (if y = -1 ∧ x = least then (0, 34) else ((x.tdiv y) % M, 0)) else if k = 1 then ((a : Int) / b, 0) else if k = 2 then ((x.tmod y) % M, 0) else ((a : Int) % b, 0)
end Go.Bk.Num
namespace Go.Proofs.YtpfbdaemdghogaaDoor
open Go.RowKit Go.Bk Go.Bk.Num
set_option linter.unusedVariables false
set_option linter.unusedSimpArgs false

theorem ret2_int {k : IntKind} {p q : Int} {r : Value} (h : p = q) : Ending.returned (.tuple #[.int k p, r]) = .returned (.tuple #[.int k q, r]) := by rw [h]
theorem wrap64_mod (z : Int) : IntKind.u64.wrap (wrap64 z) = z % 18446744073709551616 := by rw [IntKind.wrap_u64]; unfold wrap64; omega
theorem wrap32_mod (z : Int) : wrap32 z % 4294967296 = z % 4294967296 := by unfold wrap32; omega
theorem div_small {M : Int} {a b : Nat} (h : (a : Int) < M) : ((a : Int) / b) % M = (a : Int) / b := by
  have h1 : ((a : Int) / b) = ((a / b : Nat) : Int) := by simp
  have h2 := Nat.div_le_self a b
  rw [h1]
  exact Int.emod_eq_of_lt (Int.natCast_nonneg _) (by omega)
theorem mod_small {M : Int} {a b : Nat} (h : (a : Int) < M) : ((a : Int) % b) % M = (a : Int) % b := by
  have h1 : ((a : Int) % b) = ((a % b : Nat) : Int) := by simp
  have h2 := Nat.mod_le a b
  rw [h1]
  exact Int.emod_eq_of_lt (by omega) (by omega)

set_option maxHeartbeats 1000000 in
theorem rel64_any (a b : Nat) (x y : Int) (w : World) : Calls Tryd.prog 51 #[.int .u64 a, .int .u64 b, .int .i64 x, .int .i64 y] w fun e w' => e = .returned (.slice (some ⟨w.heap.size, 0, none⟩) 10 10) ∧ w.alloc (.cells ((relL a b x y).map Value.bool).toArray 4) = w' := by
  go_enter Tryd.func51, Tryd.ntmps51
  go_wp2
  go_ret
  exact ⟨rfl, rfl⟩
set_option maxHeartbeats 1000000 in
theorem rel32_any (a b : Nat) (x y : Int) (w : World) : Calls Tryd.prog 52 #[.int .u32 a, .int .u32 b, .int .i32 x, .int .i32 y] w fun e w' => e = .returned (.slice (some ⟨w.heap.size, 0, none⟩) 10 10) ∧ w.alloc (.cells ((relL a b x y).map Value.bool).toArray 4) = w' := by
  go_enter Tryd.func52, Tryd.ntmps52
  go_wp2
  go_ret
  exact ⟨rfl, rfl⟩

set_option maxRecDepth 100000 in
set_option maxHeartbeats 4000000 in
theorem ari64_any (a b : Nat) (x : Int) (w : World) (ha : a < 18446744073709551616) (hb : b < 18446744073709551616) (hx : -9223372036854775808 ≤ x) (hx2 : x ≤ 9223372036854775807) (by_ : Nat) (hby : bits .and .i64 (wrap64 (b : Int)) 63 = (by_ : Int)) (hb6 : by_ < 64) :
    Calls Tryd.prog 55 #[.int .u64 a, .int .u64 b, .int .i64 x, .int .i64 64] w fun e w' => e = .returned (.slice (some ⟨w.heap.size, 0, none⟩) 15 15) ∧ (w.alloc (.cells ((ariL .u64 64 a b by_ x).map (Value.int .u64)).toArray 23)).drew = w' := by
  go_enter Tryd.func55, Tryd.ntmps55
  go_wp2_with fail
  have hw : wrap64 (64 - (by_ : Int)) = ((64 - by_ : Nat) : Int) := by unfold wrap64; omega
  go_region
  go_wp2
  go_ret
  exact ⟨rfl, rfl⟩
set_option maxRecDepth 100000 in
set_option maxHeartbeats 4000000 in
theorem ari32_any (a b : Nat) (x : Int) (w : World) (ha : a < 4294967296) (hb : b < 4294967296) (hx : -2147483648 ≤ x) (hx2 : x ≤ 2147483647) (by_ : Nat) (hby : bits .and .i64 (b : Int) 31 = (by_ : Int)) (hb6 : by_ < 32) :
    Calls Tryd.prog 56 #[.int .u32 a, .int .u32 b, .int .i32 x, .int .i64 32] w fun e w' => e = .returned (.slice (some ⟨w.heap.size, 0, none⟩) 15 15) ∧ (w.alloc (.cells ((ariL .u32 32 a b by_ x).map (Value.int .u32)).toArray 49)).drew = w' := by
  go_enter Tryd.func56, Tryd.ntmps56
  go_wp2_with fail
  have hw : wrap64 (32 - (by_ : Int)) = ((32 - by_ : Nat) : Int) := by unfold wrap64; omega
  go_region
  go_wp2
  go_ret
  exact ⟨rfl, rfl⟩
set_option maxRecDepth 100000 in
set_option maxHeartbeats 2000000 in
theorem div64_any (k : Int) (a b : Nat) (x y : Int) (w : World) (ha : a < 18446744073709551616) (hb : b < 18446744073709551616) (hx : -9223372036854775808 ≤ x) (hx2 : x ≤ 9223372036854775807) (hy : -9223372036854775808 ≤ y) (hy2 : y ≤ 9223372036854775807) (hyb : y = 0 → b = 0) :
    Calls Tryd.prog 53 #[.int .i64 k, .int .u64 a, .int .u64 b, .int .i64 x, .int .i64 y] w fun e w' => e = .returned (.tuple #[.int .u64 (divV 18446744073709551616 (-9223372036854775808) k a b x y).1, .int .i64 (divV 18446744073709551616 (-9223372036854775808) k a b x y).2]) ∧ w = w' := by
  by_cases h0 : b = 0
  · have g0 : ((b : Int) == 0) = true := by simp [h0]
    have HV := Lib.hid (show divV 18446744073709551616 (-9223372036854775808) k a b x y = (0, 33) by simp [divV, h0])
    clear h0 hyb
    go_enter Tryd.func53, Tryd.ntmps53
    go_wp2
    go_ret2
    rw [HV.out]
    exact ⟨rfl, rfl⟩
  · have g0 : ((b : Int) == 0) = false := by simp; omega
    have hy0 : (y == 0) = false := by simp; intro e; exact h0 (hyb e)
    have hy0' : ¬ y = 0 := fun e => h0 (hyb e)
    have hb0 : 0 < b := by omega
    by_cases hk0 : k = 0
    · subst hk0
      by_cases hy1 : y = -1
      · have y1 : (y == -1) = true := by simp [hy1]
        by_cases hxm : x = -9223372036854775808
        · have HV := Lib.hid (show divV 18446744073709551616 (-9223372036854775808) 0 a b x y = (0, 34) by simp [divV, h0, hy1, hxm])
          have x0 : (x != 0) = true := by simp; omega
          have x1 : (x == wrap64 (-x)) = true := by simp [wrap64, wrap32]; omega
          clear hyb h0 hy1 hxm
          go_enter Tryd.func53, Tryd.ntmps53
          go_wp2
          go_ret2
          rw [HV.out]
          exact ⟨rfl, rfl⟩
        · have HV := Lib.hid (show divV 18446744073709551616 (-9223372036854775808) 0 a b x y = ((x.tdiv y) % 18446744073709551616, 0) by simp [divV, h0, hxm])
          by_cases hx0 : x = 0
          · have x0 : (x != 0) = false := by simp [hx0]
            have x1 : (x == wrap64 (-x)) = true := by simp [hx0, wrap64, wrap32]
            clear hyb h0 hy1 hxm hx0
            go_enter Tryd.func53, Tryd.ntmps53
            go_wp2
            go_ret2
            rw [HV.out]
            exact ⟨ret2_int (by first | exact wrap32_mod _ | exact wrap64_mod _), rfl⟩
          · have x1 : (x == wrap64 (-x)) = false := by simp [wrap64, wrap32]; omega
            clear hyb h0 hy1 hxm hx0
            go_enter Tryd.func53, Tryd.ntmps53
            go_wp2
            go_ret2
            rw [HV.out]
            exact ⟨ret2_int (by first | exact wrap32_mod _ | exact wrap64_mod _), rfl⟩
      · have y1 : (y == -1) = false := by simp [hy1]
        have HV := Lib.hid (show divV 18446744073709551616 (-9223372036854775808) 0 a b x y = ((x.tdiv y) % 18446744073709551616, 0) by simp [divV, h0, hy1])
        clear hyb h0 hy1
        go_enter Tryd.func53, Tryd.ntmps53
        go_wp2
        go_ret2
        rw [HV.out]
        exact ⟨ret2_int (by first | exact wrap32_mod _ | exact wrap64_mod _), rfl⟩
    · have k0 : (k == 0) = false := by simp [hk0]
      by_cases hk1 : k = 1
      · subst hk1
        have HV := Lib.hid (show divV 18446744073709551616 (-9223372036854775808) 1 a b x y = ((a : Int) / b, 0) by simp [divV, h0])
        clear hyb h0 hk0
        go_enter Tryd.func53, Tryd.ntmps53
        go_wp2
        go_ret2
        rw [HV.out]
        exact ⟨ret2_int (by first | exact div_small (by omega) | (rw [IntKind.wrap_u64]; exact div_small (by omega))), rfl⟩
      · have k1 : (k == 1) = false := by simp [hk1]
        by_cases hk2 : k = 2
        · subst hk2
          have HV := Lib.hid (show divV 18446744073709551616 (-9223372036854775808) 2 a b x y = ((x.tmod y) % 18446744073709551616, 0) by simp [divV, h0])
          clear hyb h0 hk0 hk1
          go_enter Tryd.func53, Tryd.ntmps53
          go_wp2
          go_ret2
          rw [HV.out]
          exact ⟨ret2_int (by first | rfl | rw [IntKind.wrap_u64]), rfl⟩
        · have k2 : (k == 2) = false := by simp [hk2]
          have HV := Lib.hid (show divV 18446744073709551616 (-9223372036854775808) k a b x y = ((a : Int) % b, 0) by simp [divV, h0, hk0, hk1, hk2])
          clear hyb h0 hk0 hk1 hk2
          go_enter Tryd.func53, Tryd.ntmps53
          go_wp2
          go_ret2
          rw [HV.out]
          exact ⟨ret2_int (by first | rfl | exact mod_small (by omega) | (rw [IntKind.wrap_u64]; exact mod_small (by omega))), rfl⟩
set_option maxRecDepth 100000 in
set_option maxHeartbeats 2000000 in
theorem div32_any (k : Int) (a b : Nat) (x y : Int) (w : World) (ha : a < 4294967296) (hb : b < 4294967296) (hx : -2147483648 ≤ x) (hx2 : x ≤ 2147483647) (hy : -2147483648 ≤ y) (hy2 : y ≤ 2147483647) (hyb : y = 0 → b = 0) :
    Calls Tryd.prog 54 #[.int .i64 k, .int .u32 a, .int .u32 b, .int .i32 x, .int .i32 y] w fun e w' => e = .returned (.tuple #[.int .u32 (divV 4294967296 (-2147483648) k a b x y).1, .int .i64 (divV 4294967296 (-2147483648) k a b x y).2]) ∧ w = w' := by
  by_cases h0 : b = 0
  · have g0 : ((b : Int) == 0) = true := by simp [h0]
    have HV := Lib.hid (show divV 4294967296 (-2147483648) k a b x y = (0, 33) by simp [divV, h0])
    clear h0 hyb
    go_enter Tryd.func54, Tryd.ntmps54
    go_wp2
    go_ret2
    rw [HV.out]
    exact ⟨rfl, rfl⟩
  · have g0 : ((b : Int) == 0) = false := by simp; omega
    have hy0 : (y == 0) = false := by simp; intro e; exact h0 (hyb e)
    have hy0' : ¬ y = 0 := fun e => h0 (hyb e)
    have hb0 : 0 < b := by omega
    by_cases hk0 : k = 0
    · subst hk0
      by_cases hy1 : y = -1
      · have y1 : (y == -1) = true := by simp [hy1]
        by_cases hxm : x = -2147483648
        · have HV := Lib.hid (show divV 4294967296 (-2147483648) 0 a b x y = (0, 34) by simp [divV, h0, hy1, hxm])
          have x0 : (x != 0) = true := by simp; omega
          have x1 : (x == wrap32 (-x)) = true := by simp [wrap64, wrap32]; omega
          clear hyb h0 hy1 hxm
          go_enter Tryd.func54, Tryd.ntmps54
          go_wp2
          go_ret2
          rw [HV.out]
          exact ⟨rfl, rfl⟩
        · have HV := Lib.hid (show divV 4294967296 (-2147483648) 0 a b x y = ((x.tdiv y) % 4294967296, 0) by simp [divV, h0, hxm])
          by_cases hx0 : x = 0
          · have x0 : (x != 0) = false := by simp [hx0]
            have x1 : (x == wrap32 (-x)) = true := by simp [hx0, wrap64, wrap32]
            clear hyb h0 hy1 hxm hx0
            go_enter Tryd.func54, Tryd.ntmps54
            go_wp2
            go_ret2
            rw [HV.out]
            exact ⟨ret2_int (by first | exact wrap32_mod _ | exact wrap64_mod _), rfl⟩
          · have x1 : (x == wrap32 (-x)) = false := by simp [wrap64, wrap32]; omega
            clear hyb h0 hy1 hxm hx0
            go_enter Tryd.func54, Tryd.ntmps54
            go_wp2
            go_ret2
            rw [HV.out]
            exact ⟨ret2_int (by first | exact wrap32_mod _ | exact wrap64_mod _), rfl⟩
      · have y1 : (y == -1) = false := by simp [hy1]
        have HV := Lib.hid (show divV 4294967296 (-2147483648) 0 a b x y = ((x.tdiv y) % 4294967296, 0) by simp [divV, h0, hy1])
        clear hyb h0 hy1
        go_enter Tryd.func54, Tryd.ntmps54
        go_wp2
        go_ret2
        rw [HV.out]
        exact ⟨ret2_int (by first | exact wrap32_mod _ | exact wrap64_mod _), rfl⟩
    · have k0 : (k == 0) = false := by simp [hk0]
      by_cases hk1 : k = 1
      · subst hk1
        have HV := Lib.hid (show divV 4294967296 (-2147483648) 1 a b x y = ((a : Int) / b, 0) by simp [divV, h0])
        clear hyb h0 hk0
        go_enter Tryd.func54, Tryd.ntmps54
        go_wp2
        go_ret2
        rw [HV.out]
        exact ⟨ret2_int (by first | exact div_small (by omega) | (rw [IntKind.wrap_u64]; exact div_small (by omega))), rfl⟩
      · have k1 : (k == 1) = false := by simp [hk1]
        by_cases hk2 : k = 2
        · subst hk2
          have HV := Lib.hid (show divV 4294967296 (-2147483648) 2 a b x y = ((x.tmod y) % 4294967296, 0) by simp [divV, h0])
          clear hyb h0 hk0 hk1
          go_enter Tryd.func54, Tryd.ntmps54
          go_wp2
          go_ret2
          rw [HV.out]
          exact ⟨ret2_int (by first | rfl | rw [IntKind.wrap_u64]), rfl⟩
        · have k2 : (k == 2) = false := by simp [hk2]
          have HV := Lib.hid (show divV 4294967296 (-2147483648) k a b x y = ((a : Int) % b, 0) by simp [divV, h0, hk0, hk1, hk2])
          clear hyb h0 hk0 hk1 hk2
          go_enter Tryd.func54, Tryd.ntmps54
          go_wp2
          go_ret2
          rw [HV.out]
          exact ⟨ret2_int (by first | rfl | exact mod_small (by omega) | (rw [IntKind.wrap_u64]; exact mod_small (by omega))), rfl⟩
end Go.Proofs.YtpfbdaemdghogaaDoor
