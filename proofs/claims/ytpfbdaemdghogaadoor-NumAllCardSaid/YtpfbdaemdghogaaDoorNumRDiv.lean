/-
  The reference's divide: it is what is computed of two numbers by the program's divide.
  Conditions: the numbers fit their types.
-/
import Derived.Test.YtpfbdaemdghogaaDoorNumRSmall
namespace Go.Proofs.YtpfbdaemdghogaaDoor
open Go.RowKit Go.Bk Go.Bk.Num
set_option linter.unusedVariables false
set_option linter.unusedSimpArgs false
theorem least64 : wrap64 9223372036854775808 = -9223372036854775808 := by unfold wrap64; omega
theorem least32 : wrap32 2147483648 = -2147483648 := by unfold wrap32; omega
theorem signed64x (z x : Int) (w : World) (h0 : 0 ≤ z) (hz : z < 18446744073709551616) (hx : wrap64 z = x) : Calls Tryd.prog 40 #[.int .u64 z, .int .i64 64] w fun e w' => e = .returned (.int .i64 x) ∧ w = w' := by
  subst hx; exact signed64 z w h0 hz
theorem signed32x (z x : Int) (w : World) (h0 : 0 ≤ z) (hz : z < 18446744073709551616) (hx : wrap32 z = x) : Calls Tryd.prog 40 #[.int .u64 z, .int .i64 32] w fun e w' => e = .returned (.int .i64 x) ∧ w = w' := by
  subst hx; exact signed32 z w h0 hz
theorem mod32a (z : Int) : IntKind.u64.wrap (wrap64 z) % 4294967296 = z % 4294967296 := by rw [wrap64_mod]; omega
theorem mod32b (z : Int) : IntKind.u64.wrap z % 4294967296 = z % 4294967296 := by rw [IntKind.wrap_u64]; omega
theorem u64w_rng (z : Int) : 0 ≤ IntKind.u64.wrap z ∧ IntKind.u64.wrap z < 18446744073709551616 := by rw [IntKind.wrap_u64]; omega
set_option maxRecDepth 100000 in
set_option maxHeartbeats 4000000 in
theorem rdiv64 (k a b : Nat) (w : World) (hk : k = 0 ∨ k = 1 ∨ k = 2 ∨ k = 3) (ha : a < 18446744073709551616) (hb : b < 18446744073709551616) : Calls Tryd.prog 58 #[.int .i64 k, .int .u64 a, .int .u64 b, .int .i64 64] w fun e w' => e = .returned (.tuple #[.int .u64 (divV 18446744073709551616 (-9223372036854775808) k a b (wrap64 a) (wrap64 b)).1, .int .i64 (divV 18446744073709551616 (-9223372036854775808) k a b (wrap64 a) (wrap64 b)).2]) ∧ w = w' := by
  have hx : -9223372036854775808 ≤ wrap64 (a : Int) ∧ wrap64 (a : Int) ≤ 9223372036854775807 := by unfold wrap64; omega
  have hy : -9223372036854775808 ≤ wrap64 (b : Int) ∧ wrap64 (b : Int) ≤ 9223372036854775807 := by unfold wrap64; omega
  have hyb : wrap64 (b : Int) = 0 → b = 0 := by unfold wrap64; omega
  obtain ⟨x, HX⟩ : ∃ x, wrap64 (a : Int) = x := ⟨_, rfl⟩
  obtain ⟨y, HY⟩ : ∃ y, wrap64 (b : Int) = y := ⟨_, rfl⟩
  rw [HX] at hx
  rw [HY] at hy hyb
  rw [HX, HY]
  replace HX := Lib.hid HX
  replace HY := Lib.hid HY
  obtain ⟨hx1, hx2⟩ := hx
  obtain ⟨hy1, hy2⟩ := hy
  have ha6 : a < 18446744073709551616 := by omega
  have hb6 : b < 18446744073709551616 := by omega
  by_cases h0 : b = 0
  · have g0 : ((b : Int) == 0) = true := by simp [h0]
    have HV := Lib.hid (show divV 18446744073709551616 (-9223372036854775808) k a b x y = (0, 33) by simp [divV, h0])
    clear h0 hyb hk
    go_enter Tryd.func58, Tryd.ntmps58
    go_wp2_with fail
    refine (signed64x (a : Int) x _ (by omega) (by omega) HX.out).mono ?_
    rintro e w1 ⟨rfl, rfl⟩
    go_wp2_with fail
    refine (signed64x (b : Int) y _ (by omega) (by omega) HY.out).mono ?_
    rintro e w1 ⟨rfl, rfl⟩
    go_wp2
    go_ret2
    rw [HV.out]
    exact ⟨rfl, rfl⟩
  have g0 : ((b : Int) == 0) = false := by simp; omega
  have hy0 : (y == 0) = false := by simp; intro e; exact h0 (hyb e)
  have hy0' : ¬ y = 0 := fun e => h0 (hyb e)
  have hb0 : 0 < b := by omega
  by_cases hy1' : y = -1
  · have y1 : (y == -1) = true := by simp [hy1']
    by_cases hxm : x = -9223372036854775808
    · have x1 : (x == -9223372036854775808) = true := by simp [hxm]
      rcases hk with rfl | rfl | rfl | rfl
      · have HV := Lib.hid (show divV 18446744073709551616 (-9223372036854775808) ((0 : Nat) : Int) a b x y = (0, 34) from by simp [divV, h0, hy1', hxm])
        clear h0 hyb hy1' hxm
        go_enter Tryd.func58, Tryd.ntmps58
        go_wp2_with fail
        refine (signed64x (a : Int) x _ (by omega) (by omega) HX.out).mono ?_
        rintro e w1 ⟨rfl, rfl⟩
        go_wp2_with fail
        refine (signed64x (b : Int) y _ (by omega) (by omega) HY.out).mono ?_
        rintro e w1 ⟨rfl, rfl⟩
        go_wp2_with fail
        refine (signed64x 9223372036854775808 (-9223372036854775808) _ (by omega) (by omega) least64).mono ?_
        rintro e w1 ⟨rfl, rfl⟩
        go_wp2
        go_ret2
        rw [HV.out]
        exact ⟨rfl, rfl⟩
      · have HV := Lib.hid (show divV 18446744073709551616 (-9223372036854775808) ((1 : Nat) : Int) a b x y = ((a : Int) / b, 0) from by unfold divV; rw [if_neg h0, if_neg (by decide), if_pos (by rfl)])
        clear h0 hyb hy1' hxm
        go_enter Tryd.func58, Tryd.ntmps58
        go_wp2_with fail
        refine (signed64x (a : Int) x _ (by omega) (by omega) HX.out).mono ?_
        rintro e w1 ⟨rfl, rfl⟩
        go_wp2_with fail
        refine (signed64x (b : Int) y _ (by omega) (by omega) HY.out).mono ?_
        rintro e w1 ⟨rfl, rfl⟩
        go_wp2_with fail
        refine (signed64x 9223372036854775808 (-9223372036854775808) _ (by omega) (by omega) least64).mono ?_
        rintro e w1 ⟨rfl, rfl⟩
        go_wp2
        go_ret2
        rw [HV.out]
        exact ⟨ret2_int (by first | rfl | (rw [IntKind.wrap_u64]; exact div_small (by omega))), rfl⟩
      · have HV := Lib.hid (show divV 18446744073709551616 (-9223372036854775808) ((2 : Nat) : Int) a b x y = (0, 0) from by unfold divV; rw [if_neg h0, if_neg (by decide), if_neg (by decide), if_pos (by rfl), hy1', Int.tmod_neg, Int.tmod_one]; rfl)
        clear h0 hyb hy1' hxm
        go_enter Tryd.func58, Tryd.ntmps58
        go_wp2_with fail
        refine (signed64x (a : Int) x _ (by omega) (by omega) HX.out).mono ?_
        rintro e w1 ⟨rfl, rfl⟩
        go_wp2_with fail
        refine (signed64x (b : Int) y _ (by omega) (by omega) HY.out).mono ?_
        rintro e w1 ⟨rfl, rfl⟩
        go_wp2_with fail
        refine (signed64x 9223372036854775808 (-9223372036854775808) _ (by omega) (by omega) least64).mono ?_
        rintro e w1 ⟨rfl, rfl⟩
        go_wp2
        go_ret2
        rw [HV.out]
        exact ⟨rfl, rfl⟩
      · have HV := Lib.hid (show divV 18446744073709551616 (-9223372036854775808) ((3 : Nat) : Int) a b x y = ((a : Int) % b, 0) from by unfold divV; rw [if_neg h0, if_neg (by decide), if_neg (by decide), if_neg (by decide)])
        clear h0 hyb hy1' hxm
        go_enter Tryd.func58, Tryd.ntmps58
        go_wp2_with fail
        refine (signed64x (a : Int) x _ (by omega) (by omega) HX.out).mono ?_
        rintro e w1 ⟨rfl, rfl⟩
        go_wp2_with fail
        refine (signed64x (b : Int) y _ (by omega) (by omega) HY.out).mono ?_
        rintro e w1 ⟨rfl, rfl⟩
        go_wp2_with fail
        refine (signed64x 9223372036854775808 (-9223372036854775808) _ (by omega) (by omega) least64).mono ?_
        rintro e w1 ⟨rfl, rfl⟩
        go_wp2
        go_ret2
        rw [HV.out]
        exact ⟨ret2_int (by first | rfl | (rw [IntKind.wrap_u64]; exact mod_small (by omega))), rfl⟩
    · have x1 : (x == -9223372036854775808) = false := by simp [hxm]
      rcases hk with rfl | rfl | rfl | rfl
      · have HV := Lib.hid (show divV 18446744073709551616 (-9223372036854775808) ((0 : Nat) : Int) a b x y = ((x.tdiv y) % 18446744073709551616, 0) from by unfold divV; rw [if_neg h0, if_pos (by rfl), if_neg (by simp [hxm])])
        clear h0 hyb hy1' hxm
        go_enter Tryd.func58, Tryd.ntmps58
        go_wp2_with fail
        refine (signed64x (a : Int) x _ (by omega) (by omega) HX.out).mono ?_
        rintro e w1 ⟨rfl, rfl⟩
        go_wp2_with fail
        refine (signed64x (b : Int) y _ (by omega) (by omega) HY.out).mono ?_
        rintro e w1 ⟨rfl, rfl⟩
        go_wp2_with fail
        refine (signed64x 9223372036854775808 (-9223372036854775808) _ (by omega) (by omega) least64).mono ?_
        rintro e w1 ⟨rfl, rfl⟩
        go_wp2_with fail
        refine (low64 _ _).mono ?_
        rintro e w1 ⟨rfl, rfl⟩
        go_wp2
        go_ret2
        rw [HV.out]
        exact ⟨ret2_int (by first | exact wrap64_mod _ | exact IntKind.wrap_u64 _ | exact mod32a _ | exact mod32b _), rfl⟩
      · have HV := Lib.hid (show divV 18446744073709551616 (-9223372036854775808) ((1 : Nat) : Int) a b x y = ((a : Int) / b, 0) from by unfold divV; rw [if_neg h0, if_neg (by decide), if_pos (by rfl)])
        clear h0 hyb hy1' hxm
        go_enter Tryd.func58, Tryd.ntmps58
        go_wp2_with fail
        refine (signed64x (a : Int) x _ (by omega) (by omega) HX.out).mono ?_
        rintro e w1 ⟨rfl, rfl⟩
        go_wp2_with fail
        refine (signed64x (b : Int) y _ (by omega) (by omega) HY.out).mono ?_
        rintro e w1 ⟨rfl, rfl⟩
        go_wp2_with fail
        refine (signed64x 9223372036854775808 (-9223372036854775808) _ (by omega) (by omega) least64).mono ?_
        rintro e w1 ⟨rfl, rfl⟩
        go_wp2
        go_ret2
        rw [HV.out]
        exact ⟨ret2_int (by first | rfl | (rw [IntKind.wrap_u64]; exact div_small (by omega))), rfl⟩
      · have HV := Lib.hid (show divV 18446744073709551616 (-9223372036854775808) ((2 : Nat) : Int) a b x y = ((x.tmod y) % 18446744073709551616, 0) from by unfold divV; rw [if_neg h0, if_neg (by decide), if_neg (by decide), if_pos (by rfl)])
        clear h0 hyb hy1' hxm
        go_enter Tryd.func58, Tryd.ntmps58
        go_wp2_with fail
        refine (signed64x (a : Int) x _ (by omega) (by omega) HX.out).mono ?_
        rintro e w1 ⟨rfl, rfl⟩
        go_wp2_with fail
        refine (signed64x (b : Int) y _ (by omega) (by omega) HY.out).mono ?_
        rintro e w1 ⟨rfl, rfl⟩
        go_wp2_with fail
        refine (signed64x 9223372036854775808 (-9223372036854775808) _ (by omega) (by omega) least64).mono ?_
        rintro e w1 ⟨rfl, rfl⟩
        go_wp2_with fail
        refine (low64 _ _).mono ?_
        rintro e w1 ⟨rfl, rfl⟩
        go_wp2
        go_ret2
        rw [HV.out]
        exact ⟨ret2_int (by first | exact wrap64_mod _ | exact IntKind.wrap_u64 _ | exact mod32a _ | exact mod32b _), rfl⟩
      · have HV := Lib.hid (show divV 18446744073709551616 (-9223372036854775808) ((3 : Nat) : Int) a b x y = ((a : Int) % b, 0) from by unfold divV; rw [if_neg h0, if_neg (by decide), if_neg (by decide), if_neg (by decide)])
        clear h0 hyb hy1' hxm
        go_enter Tryd.func58, Tryd.ntmps58
        go_wp2_with fail
        refine (signed64x (a : Int) x _ (by omega) (by omega) HX.out).mono ?_
        rintro e w1 ⟨rfl, rfl⟩
        go_wp2_with fail
        refine (signed64x (b : Int) y _ (by omega) (by omega) HY.out).mono ?_
        rintro e w1 ⟨rfl, rfl⟩
        go_wp2_with fail
        refine (signed64x 9223372036854775808 (-9223372036854775808) _ (by omega) (by omega) least64).mono ?_
        rintro e w1 ⟨rfl, rfl⟩
        go_wp2
        go_ret2
        rw [HV.out]
        exact ⟨ret2_int (by first | rfl | (rw [IntKind.wrap_u64]; exact mod_small (by omega))), rfl⟩
  · have y1 : (y == -1) = false := by simp [hy1']
    rcases hk with rfl | rfl | rfl | rfl
    · have HV := Lib.hid (show divV 18446744073709551616 (-9223372036854775808) ((0 : Nat) : Int) a b x y = ((x.tdiv y) % 18446744073709551616, 0) from by unfold divV; rw [if_neg h0, if_pos (by rfl), if_neg (by simp [hy1'])])
      clear h0 hyb hy1'
      go_enter Tryd.func58, Tryd.ntmps58
      go_wp2_with fail
      refine (signed64x (a : Int) x _ (by omega) (by omega) HX.out).mono ?_
      rintro e w1 ⟨rfl, rfl⟩
      go_wp2_with fail
      refine (signed64x (b : Int) y _ (by omega) (by omega) HY.out).mono ?_
      rintro e w1 ⟨rfl, rfl⟩
      go_wp2_with fail
      refine (low64 _ _).mono ?_
      rintro e w1 ⟨rfl, rfl⟩
      go_wp2
      go_ret2
      rw [HV.out]
      exact ⟨ret2_int (by first | exact wrap64_mod _ | exact IntKind.wrap_u64 _ | exact mod32a _ | exact mod32b _), rfl⟩
    · have HV := Lib.hid (show divV 18446744073709551616 (-9223372036854775808) ((1 : Nat) : Int) a b x y = ((a : Int) / b, 0) from by unfold divV; rw [if_neg h0, if_neg (by decide), if_pos (by rfl)])
      clear h0 hyb hy1'
      go_enter Tryd.func58, Tryd.ntmps58
      go_wp2_with fail
      refine (signed64x (a : Int) x _ (by omega) (by omega) HX.out).mono ?_
      rintro e w1 ⟨rfl, rfl⟩
      go_wp2_with fail
      refine (signed64x (b : Int) y _ (by omega) (by omega) HY.out).mono ?_
      rintro e w1 ⟨rfl, rfl⟩
      go_wp2
      go_ret2
      rw [HV.out]
      exact ⟨ret2_int (by first | rfl | (rw [IntKind.wrap_u64]; exact div_small (by omega))), rfl⟩
    · have HV := Lib.hid (show divV 18446744073709551616 (-9223372036854775808) ((2 : Nat) : Int) a b x y = ((x.tmod y) % 18446744073709551616, 0) from by unfold divV; rw [if_neg h0, if_neg (by decide), if_neg (by decide), if_pos (by rfl)])
      clear h0 hyb hy1'
      go_enter Tryd.func58, Tryd.ntmps58
      go_wp2_with fail
      refine (signed64x (a : Int) x _ (by omega) (by omega) HX.out).mono ?_
      rintro e w1 ⟨rfl, rfl⟩
      go_wp2_with fail
      refine (signed64x (b : Int) y _ (by omega) (by omega) HY.out).mono ?_
      rintro e w1 ⟨rfl, rfl⟩
      go_wp2_with fail
      refine (low64 _ _).mono ?_
      rintro e w1 ⟨rfl, rfl⟩
      go_wp2
      go_ret2
      rw [HV.out]
      exact ⟨ret2_int (by first | exact wrap64_mod _ | exact IntKind.wrap_u64 _ | exact mod32a _ | exact mod32b _), rfl⟩
    · have HV := Lib.hid (show divV 18446744073709551616 (-9223372036854775808) ((3 : Nat) : Int) a b x y = ((a : Int) % b, 0) from by unfold divV; rw [if_neg h0, if_neg (by decide), if_neg (by decide), if_neg (by decide)])
      clear h0 hyb hy1'
      go_enter Tryd.func58, Tryd.ntmps58
      go_wp2_with fail
      refine (signed64x (a : Int) x _ (by omega) (by omega) HX.out).mono ?_
      rintro e w1 ⟨rfl, rfl⟩
      go_wp2_with fail
      refine (signed64x (b : Int) y _ (by omega) (by omega) HY.out).mono ?_
      rintro e w1 ⟨rfl, rfl⟩
      go_wp2
      go_ret2
      rw [HV.out]
      exact ⟨ret2_int (by first | rfl | (rw [IntKind.wrap_u64]; exact mod_small (by omega))), rfl⟩
set_option maxRecDepth 100000 in
set_option maxHeartbeats 4000000 in
theorem rdiv32 (k a b : Nat) (w : World) (hk : k = 0 ∨ k = 1 ∨ k = 2 ∨ k = 3) (ha : a < 4294967296) (hb : b < 4294967296) : Calls Tryd.prog 58 #[.int .i64 k, .int .u64 a, .int .u64 b, .int .i64 32] w fun e w' => e = .returned (.tuple #[.int .u64 (divV 4294967296 (-2147483648) k a b (wrap32 a) (wrap32 b)).1, .int .i64 (divV 4294967296 (-2147483648) k a b (wrap32 a) (wrap32 b)).2]) ∧ w = w' := by
  have hx : -2147483648 ≤ wrap32 (a : Int) ∧ wrap32 (a : Int) ≤ 2147483647 := by unfold wrap32; omega
  have hy : -2147483648 ≤ wrap32 (b : Int) ∧ wrap32 (b : Int) ≤ 2147483647 := by unfold wrap32; omega
  have hyb : wrap32 (b : Int) = 0 → b = 0 := by unfold wrap32; omega
  obtain ⟨x, HX⟩ : ∃ x, wrap32 (a : Int) = x := ⟨_, rfl⟩
  obtain ⟨y, HY⟩ : ∃ y, wrap32 (b : Int) = y := ⟨_, rfl⟩
  rw [HX] at hx
  rw [HY] at hy hyb
  rw [HX, HY]
  replace HX := Lib.hid HX
  replace HY := Lib.hid HY
  obtain ⟨hx1, hx2⟩ := hx
  obtain ⟨hy1, hy2⟩ := hy
  have ha6 : a < 18446744073709551616 := by omega
  have hb6 : b < 18446744073709551616 := by omega
  by_cases h0 : b = 0
  · have g0 : ((b : Int) == 0) = true := by simp [h0]
    have HV := Lib.hid (show divV 4294967296 (-2147483648) k a b x y = (0, 33) by simp [divV, h0])
    clear h0 hyb hk
    go_enter Tryd.func58, Tryd.ntmps58
    go_wp2_with fail
    refine (signed32x (a : Int) x _ (by omega) (by omega) HX.out).mono ?_
    rintro e w1 ⟨rfl, rfl⟩
    go_wp2_with fail
    refine (signed32x (b : Int) y _ (by omega) (by omega) HY.out).mono ?_
    rintro e w1 ⟨rfl, rfl⟩
    go_wp2
    go_ret2
    rw [HV.out]
    exact ⟨rfl, rfl⟩
  have g0 : ((b : Int) == 0) = false := by simp; omega
  have hy0 : (y == 0) = false := by simp; intro e; exact h0 (hyb e)
  have hy0' : ¬ y = 0 := fun e => h0 (hyb e)
  have hb0 : 0 < b := by omega
  by_cases hy1' : y = -1
  · have y1 : (y == -1) = true := by simp [hy1']
    by_cases hxm : x = -2147483648
    · have x1 : (x == -2147483648) = true := by simp [hxm]
      rcases hk with rfl | rfl | rfl | rfl
      · have HV := Lib.hid (show divV 4294967296 (-2147483648) ((0 : Nat) : Int) a b x y = (0, 34) from by simp [divV, h0, hy1', hxm])
        clear h0 hyb hy1' hxm
        go_enter Tryd.func58, Tryd.ntmps58
        go_wp2_with fail
        refine (signed32x (a : Int) x _ (by omega) (by omega) HX.out).mono ?_
        rintro e w1 ⟨rfl, rfl⟩
        go_wp2_with fail
        refine (signed32x (b : Int) y _ (by omega) (by omega) HY.out).mono ?_
        rintro e w1 ⟨rfl, rfl⟩
        go_wp2_with fail
        refine (signed32x 2147483648 (-2147483648) _ (by omega) (by omega) least32).mono ?_
        rintro e w1 ⟨rfl, rfl⟩
        go_wp2
        go_ret2
        rw [HV.out]
        exact ⟨rfl, rfl⟩
      · have HV := Lib.hid (show divV 4294967296 (-2147483648) ((1 : Nat) : Int) a b x y = ((a : Int) / b, 0) from by unfold divV; rw [if_neg h0, if_neg (by decide), if_pos (by rfl)])
        clear h0 hyb hy1' hxm
        go_enter Tryd.func58, Tryd.ntmps58
        go_wp2_with fail
        refine (signed32x (a : Int) x _ (by omega) (by omega) HX.out).mono ?_
        rintro e w1 ⟨rfl, rfl⟩
        go_wp2_with fail
        refine (signed32x (b : Int) y _ (by omega) (by omega) HY.out).mono ?_
        rintro e w1 ⟨rfl, rfl⟩
        go_wp2_with fail
        refine (signed32x 2147483648 (-2147483648) _ (by omega) (by omega) least32).mono ?_
        rintro e w1 ⟨rfl, rfl⟩
        go_wp2
        go_ret2
        rw [HV.out]
        exact ⟨ret2_int (by first | rfl | (rw [IntKind.wrap_u64]; exact div_small (by omega))), rfl⟩
      · have HV := Lib.hid (show divV 4294967296 (-2147483648) ((2 : Nat) : Int) a b x y = (0, 0) from by unfold divV; rw [if_neg h0, if_neg (by decide), if_neg (by decide), if_pos (by rfl), hy1', Int.tmod_neg, Int.tmod_one]; rfl)
        clear h0 hyb hy1' hxm
        go_enter Tryd.func58, Tryd.ntmps58
        go_wp2_with fail
        refine (signed32x (a : Int) x _ (by omega) (by omega) HX.out).mono ?_
        rintro e w1 ⟨rfl, rfl⟩
        go_wp2_with fail
        refine (signed32x (b : Int) y _ (by omega) (by omega) HY.out).mono ?_
        rintro e w1 ⟨rfl, rfl⟩
        go_wp2_with fail
        refine (signed32x 2147483648 (-2147483648) _ (by omega) (by omega) least32).mono ?_
        rintro e w1 ⟨rfl, rfl⟩
        go_wp2
        go_ret2
        rw [HV.out]
        exact ⟨rfl, rfl⟩
      · have HV := Lib.hid (show divV 4294967296 (-2147483648) ((3 : Nat) : Int) a b x y = ((a : Int) % b, 0) from by unfold divV; rw [if_neg h0, if_neg (by decide), if_neg (by decide), if_neg (by decide)])
        clear h0 hyb hy1' hxm
        go_enter Tryd.func58, Tryd.ntmps58
        go_wp2_with fail
        refine (signed32x (a : Int) x _ (by omega) (by omega) HX.out).mono ?_
        rintro e w1 ⟨rfl, rfl⟩
        go_wp2_with fail
        refine (signed32x (b : Int) y _ (by omega) (by omega) HY.out).mono ?_
        rintro e w1 ⟨rfl, rfl⟩
        go_wp2_with fail
        refine (signed32x 2147483648 (-2147483648) _ (by omega) (by omega) least32).mono ?_
        rintro e w1 ⟨rfl, rfl⟩
        go_wp2
        go_ret2
        rw [HV.out]
        exact ⟨ret2_int (by first | rfl | (rw [IntKind.wrap_u64]; exact mod_small (by omega))), rfl⟩
    · have x1 : (x == -2147483648) = false := by simp [hxm]
      rcases hk with rfl | rfl | rfl | rfl
      · have HV := Lib.hid (show divV 4294967296 (-2147483648) ((0 : Nat) : Int) a b x y = ((x.tdiv y) % 4294967296, 0) from by unfold divV; rw [if_neg h0, if_pos (by rfl), if_neg (by simp [hxm])])
        clear h0 hyb hy1' hxm
        go_enter Tryd.func58, Tryd.ntmps58
        go_wp2_with fail
        refine (signed32x (a : Int) x _ (by omega) (by omega) HX.out).mono ?_
        rintro e w1 ⟨rfl, rfl⟩
        go_wp2_with fail
        refine (signed32x (b : Int) y _ (by omega) (by omega) HY.out).mono ?_
        rintro e w1 ⟨rfl, rfl⟩
        go_wp2_with fail
        refine (signed32x 2147483648 (-2147483648) _ (by omega) (by omega) least32).mono ?_
        rintro e w1 ⟨rfl, rfl⟩
        go_wp2_with fail
        refine (low32 _ _ (u64w_rng _).1 (u64w_rng _).2).mono ?_
        rintro e w1 ⟨rfl, rfl⟩
        go_wp2
        go_ret2
        rw [HV.out]
        exact ⟨ret2_int (by first | exact wrap64_mod _ | exact IntKind.wrap_u64 _ | exact mod32a _ | exact mod32b _), rfl⟩
      · have HV := Lib.hid (show divV 4294967296 (-2147483648) ((1 : Nat) : Int) a b x y = ((a : Int) / b, 0) from by unfold divV; rw [if_neg h0, if_neg (by decide), if_pos (by rfl)])
        clear h0 hyb hy1' hxm
        go_enter Tryd.func58, Tryd.ntmps58
        go_wp2_with fail
        refine (signed32x (a : Int) x _ (by omega) (by omega) HX.out).mono ?_
        rintro e w1 ⟨rfl, rfl⟩
        go_wp2_with fail
        refine (signed32x (b : Int) y _ (by omega) (by omega) HY.out).mono ?_
        rintro e w1 ⟨rfl, rfl⟩
        go_wp2_with fail
        refine (signed32x 2147483648 (-2147483648) _ (by omega) (by omega) least32).mono ?_
        rintro e w1 ⟨rfl, rfl⟩
        go_wp2
        go_ret2
        rw [HV.out]
        exact ⟨ret2_int (by first | rfl | (rw [IntKind.wrap_u64]; exact div_small (by omega))), rfl⟩
      · have HV := Lib.hid (show divV 4294967296 (-2147483648) ((2 : Nat) : Int) a b x y = ((x.tmod y) % 4294967296, 0) from by unfold divV; rw [if_neg h0, if_neg (by decide), if_neg (by decide), if_pos (by rfl)])
        clear h0 hyb hy1' hxm
        go_enter Tryd.func58, Tryd.ntmps58
        go_wp2_with fail
        refine (signed32x (a : Int) x _ (by omega) (by omega) HX.out).mono ?_
        rintro e w1 ⟨rfl, rfl⟩
        go_wp2_with fail
        refine (signed32x (b : Int) y _ (by omega) (by omega) HY.out).mono ?_
        rintro e w1 ⟨rfl, rfl⟩
        go_wp2_with fail
        refine (signed32x 2147483648 (-2147483648) _ (by omega) (by omega) least32).mono ?_
        rintro e w1 ⟨rfl, rfl⟩
        go_wp2_with fail
        refine (low32 _ _ (u64w_rng _).1 (u64w_rng _).2).mono ?_
        rintro e w1 ⟨rfl, rfl⟩
        go_wp2
        go_ret2
        rw [HV.out]
        exact ⟨ret2_int (by first | exact wrap64_mod _ | exact IntKind.wrap_u64 _ | exact mod32a _ | exact mod32b _), rfl⟩
      · have HV := Lib.hid (show divV 4294967296 (-2147483648) ((3 : Nat) : Int) a b x y = ((a : Int) % b, 0) from by unfold divV; rw [if_neg h0, if_neg (by decide), if_neg (by decide), if_neg (by decide)])
        clear h0 hyb hy1' hxm
        go_enter Tryd.func58, Tryd.ntmps58
        go_wp2_with fail
        refine (signed32x (a : Int) x _ (by omega) (by omega) HX.out).mono ?_
        rintro e w1 ⟨rfl, rfl⟩
        go_wp2_with fail
        refine (signed32x (b : Int) y _ (by omega) (by omega) HY.out).mono ?_
        rintro e w1 ⟨rfl, rfl⟩
        go_wp2_with fail
        refine (signed32x 2147483648 (-2147483648) _ (by omega) (by omega) least32).mono ?_
        rintro e w1 ⟨rfl, rfl⟩
        go_wp2
        go_ret2
        rw [HV.out]
        exact ⟨ret2_int (by first | rfl | (rw [IntKind.wrap_u64]; exact mod_small (by omega))), rfl⟩
  · have y1 : (y == -1) = false := by simp [hy1']
    rcases hk with rfl | rfl | rfl | rfl
    · have HV := Lib.hid (show divV 4294967296 (-2147483648) ((0 : Nat) : Int) a b x y = ((x.tdiv y) % 4294967296, 0) from by unfold divV; rw [if_neg h0, if_pos (by rfl), if_neg (by simp [hy1'])])
      clear h0 hyb hy1'
      go_enter Tryd.func58, Tryd.ntmps58
      go_wp2_with fail
      refine (signed32x (a : Int) x _ (by omega) (by omega) HX.out).mono ?_
      rintro e w1 ⟨rfl, rfl⟩
      go_wp2_with fail
      refine (signed32x (b : Int) y _ (by omega) (by omega) HY.out).mono ?_
      rintro e w1 ⟨rfl, rfl⟩
      go_wp2_with fail
      refine (low32 _ _ (u64w_rng _).1 (u64w_rng _).2).mono ?_
      rintro e w1 ⟨rfl, rfl⟩
      go_wp2
      go_ret2
      rw [HV.out]
      exact ⟨ret2_int (by first | exact wrap64_mod _ | exact IntKind.wrap_u64 _ | exact mod32a _ | exact mod32b _), rfl⟩
    · have HV := Lib.hid (show divV 4294967296 (-2147483648) ((1 : Nat) : Int) a b x y = ((a : Int) / b, 0) from by unfold divV; rw [if_neg h0, if_neg (by decide), if_pos (by rfl)])
      clear h0 hyb hy1'
      go_enter Tryd.func58, Tryd.ntmps58
      go_wp2_with fail
      refine (signed32x (a : Int) x _ (by omega) (by omega) HX.out).mono ?_
      rintro e w1 ⟨rfl, rfl⟩
      go_wp2_with fail
      refine (signed32x (b : Int) y _ (by omega) (by omega) HY.out).mono ?_
      rintro e w1 ⟨rfl, rfl⟩
      go_wp2
      go_ret2
      rw [HV.out]
      exact ⟨ret2_int (by first | rfl | (rw [IntKind.wrap_u64]; exact div_small (by omega))), rfl⟩
    · have HV := Lib.hid (show divV 4294967296 (-2147483648) ((2 : Nat) : Int) a b x y = ((x.tmod y) % 4294967296, 0) from by unfold divV; rw [if_neg h0, if_neg (by decide), if_neg (by decide), if_pos (by rfl)])
      clear h0 hyb hy1'
      go_enter Tryd.func58, Tryd.ntmps58
      go_wp2_with fail
      refine (signed32x (a : Int) x _ (by omega) (by omega) HX.out).mono ?_
      rintro e w1 ⟨rfl, rfl⟩
      go_wp2_with fail
      refine (signed32x (b : Int) y _ (by omega) (by omega) HY.out).mono ?_
      rintro e w1 ⟨rfl, rfl⟩
      go_wp2_with fail
      refine (low32 _ _ (u64w_rng _).1 (u64w_rng _).2).mono ?_
      rintro e w1 ⟨rfl, rfl⟩
      go_wp2
      go_ret2
      rw [HV.out]
      exact ⟨ret2_int (by first | exact wrap64_mod _ | exact IntKind.wrap_u64 _ | exact mod32a _ | exact mod32b _), rfl⟩
    · have HV := Lib.hid (show divV 4294967296 (-2147483648) ((3 : Nat) : Int) a b x y = ((a : Int) % b, 0) from by unfold divV; rw [if_neg h0, if_neg (by decide), if_neg (by decide), if_neg (by decide)])
      clear h0 hyb hy1'
      go_enter Tryd.func58, Tryd.ntmps58
      go_wp2_with fail
      refine (signed32x (a : Int) x _ (by omega) (by omega) HX.out).mono ?_
      rintro e w1 ⟨rfl, rfl⟩
      go_wp2_with fail
      refine (signed32x (b : Int) y _ (by omega) (by omega) HY.out).mono ?_
      rintro e w1 ⟨rfl, rfl⟩
      go_wp2
      go_ret2
      rw [HV.out]
      exact ⟨ret2_int (by first | rfl | (rw [IntKind.wrap_u64]; exact mod_small (by omega))), rfl⟩
end Go.Proofs.YtpfbdaemdghogaaDoor
