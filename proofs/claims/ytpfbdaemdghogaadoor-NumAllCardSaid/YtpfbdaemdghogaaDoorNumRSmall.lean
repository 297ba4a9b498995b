/-
  The reference's small functions: Fits, width, bool1, low, signed, compare.
  Conditions: none.
-/
import Derived.Test.YtpfbdaemdghogaaDoorNumRSig
namespace Go.Proofs.YtpfbdaemdghogaaDoor
open Go.RowKit Go.Bk Go.Bk.Num
set_option linter.unusedVariables false
set_option linter.unusedSimpArgs false

set_option maxHeartbeats 400000 in
theorem RFits_any (t : Int) (n : Nat) (w : World) : Calls Tryd.prog 16 #[.int .i64 t, .int .u64 n] w fun e w' => e = .returned (.bool (fitsN t n)) ∧ w = w' := by
  by_cases h1 : t = 126
  · have g1 : (t == 126) = true := by simp [h1]
    have HE := Lib.hid (show fitsN t n = true by simp [fitsN, h1])
    clear h1
    go_enter Tryd.func16, Tryd.ntmps16
    go_wp2
    go_ret
    rw [HE.out]
    exact ⟨rfl, rfl⟩
  · have g1 : (t == 126) = false := by simp [h1]
    by_cases h2 : t = 127
    · have g2 : (t == 127) = true := by simp [h2]
      by_cases h3 : n < 4294967296
      · have g3 : decide ((n : Int) < 4294967296) = true := by simp; omega
        have HE := Lib.hid (show fitsN t n = true by simp [fitsN, h2, h3])
        clear h1 h2
        go_enter Tryd.func16, Tryd.ntmps16
        go_wp2
        go_ret
        rw [HE.out]
        exact ⟨rfl, rfl⟩
      · have g3 : decide ((n : Int) < 4294967296) = false := by simp; omega
        have HE := Lib.hid (show fitsN t n = false by simp [fitsN, h2, h3])
        clear h1 h2
        go_enter Tryd.func16, Tryd.ntmps16
        go_wp2
        go_ret
        rw [HE.out]
        exact ⟨rfl, rfl⟩
    · have g2 : (t == 127) = false := by simp [h2]
      have HE := Lib.hid (show fitsN t n = false by simp [fitsN, h1, h2])
      clear h1 h2
      go_enter Tryd.func16, Tryd.ntmps16
      go_wp2
      go_ret
      rw [HE.out]
      exact ⟨rfl, rfl⟩

theorem width32 (w : World) : Calls Tryd.prog 33 #[.int .i64 127] w fun e w' => e = .returned (.int .i64 32) ∧ w = w' := by
  go_enter Tryd.func33, Tryd.ntmps33
  go_wp2
  go_ret
  exact ⟨rfl, rfl⟩
theorem width64 (w : World) : Calls Tryd.prog 33 #[.int .i64 126] w fun e w' => e = .returned (.int .i64 64) ∧ w = w' := by
  go_enter Tryd.func33, Tryd.ntmps33
  go_wp2
  go_ret
  exact ⟨rfl, rfl⟩
theorem bool1_any (b : Bool) (w : World) : Calls Tryd.prog 34 #[.bool b] w fun e w' => e = .returned (.int .u64 (b01 b)) ∧ w = w' := by
  cases b with
  | true =>
    go_enter Tryd.func34, Tryd.ntmps34
    go_wp2
    go_ret
    exact ⟨rfl, rfl⟩
  | false =>
    go_enter Tryd.func34, Tryd.ntmps34
    go_wp2
    go_ret
    exact ⟨rfl, rfl⟩
theorem low64 (z : Int) (w : World) : Calls Tryd.prog 39 #[.int .u64 z, .int .i64 64] w fun e w' => e = .returned (.int .u64 z) ∧ w = w' := by
  go_enter Tryd.func39, Tryd.ntmps39
  go_wp2
  go_ret
  exact ⟨rfl, rfl⟩
theorem and32i {z : Int} (h0 : 0 ≤ z) (hz : z < 18446744073709551616) : bits .and .u64 z 4294967295 = z % 4294967296 := by
  obtain ⟨x, rfl⟩ := Int.eq_ofNat_of_zero_le h0
  rw [show (4294967295 : Int) = ((2 ^ 32 - 1 : Nat) : Int) from rfl, bits_and_u64_nat x (2 ^ 32 - 1) (by omega) (by decide), Nat.and_two_pow_sub_one_eq_mod]
  simp
theorem low32 (z : Int) (w : World) (h0 : 0 ≤ z) (hz : z < 18446744073709551616) : Calls Tryd.prog 39 #[.int .u64 z, .int .i64 32] w fun e w' => e = .returned (.int .u64 (z % 4294967296)) ∧ w = w' := by
  have HE := Lib.hid (and32i h0 hz)
  go_enter Tryd.func39, Tryd.ntmps39
  go_wp2
  go_ret
  rw [← HE.out]
  exact ⟨rfl, rfl⟩
theorem sg64 (z : Int) : wrap64 (IntKind.u64.wrap z) = wrap64 z := by rw [IntKind.wrap_u64]; unfold wrap64; omega
theorem sg32 (z : Int) : wrap64 (IntKind.u64.wrap (z * 4294967296)) / 4294967296 = wrap32 z := by rw [IntKind.wrap_u64]; unfold wrap64 wrap32; omega
theorem sg16 (z : Int) : wrap64 (IntKind.u64.wrap (z * 281474976710656)) / 281474976710656 = IntKind.i16.wrap z := by
  have hm : z * 281474976710656 % 18446744073709551616 = 281474976710656 * (z % 65536) := by
    rw [Int.mul_comm z 281474976710656, show (18446744073709551616 : Int) = 281474976710656 * 65536 from rfl, Int.mul_emod_mul_of_pos _ _ (by decide)]
  rw [IntKind.wrap_u64, hm]
  have h0 : 0 ≤ z % 65536 := Int.emod_nonneg _ (by decide)
  have h1 : z % 65536 < 65536 := Int.emod_lt_of_pos _ (by decide)
  unfold wrap64
  simp only [IntKind.wrap, show (2 : Int) ^ IntKind.i16.bits = 65536 from rfl, show (2 : Int) ^ IntKind.i8.bits = 256 from rfl, show (2 : Int) ^ (IntKind.i16.bits - 1) = 32768 from rfl, show (2 : Int) ^ (IntKind.i8.bits - 1) = 128 from rfl]
  generalize z % 65536 = r at h0 h1 ⊢
  split
  · rename_i hs
    have hr : 32768 ≤ r := by simpa [IntKind.signed] using hs
    omega
  · rename_i hs
    have hr : r < 32768 := by simpa [IntKind.signed] using hs
    omega
theorem sg8 (z : Int) : wrap64 (IntKind.u64.wrap (z * 72057594037927936)) / 72057594037927936 = IntKind.i8.wrap z := by
  have hm : z * 72057594037927936 % 18446744073709551616 = 72057594037927936 * (z % 256) := by
    rw [Int.mul_comm z 72057594037927936, show (18446744073709551616 : Int) = 72057594037927936 * 256 from rfl, Int.mul_emod_mul_of_pos _ _ (by decide)]
  rw [IntKind.wrap_u64, hm]
  have h0 : 0 ≤ z % 256 := Int.emod_nonneg _ (by decide)
  have h1 : z % 256 < 256 := Int.emod_lt_of_pos _ (by decide)
  unfold wrap64
  simp only [IntKind.wrap, show (2 : Int) ^ IntKind.i16.bits = 65536 from rfl, show (2 : Int) ^ IntKind.i8.bits = 256 from rfl, show (2 : Int) ^ (IntKind.i16.bits - 1) = 32768 from rfl, show (2 : Int) ^ (IntKind.i8.bits - 1) = 128 from rfl]
  generalize z % 256 = r at h0 h1 ⊢
  split
  · rename_i hs
    have hr : 128 ≤ r := by simpa [IntKind.signed] using hs
    omega
  · rename_i hs
    have hr : r < 128 := by simpa [IntKind.signed] using hs
    omega
theorem ret_int' {k : IntKind} {a b : Int} (h : a = b) : Ending.returned (.int k a) = .returned (.int k b) := by rw [h]
theorem signed64 (z : Int) (w : World) (h0 : 0 ≤ z) (hz : z < 18446744073709551616) : Calls Tryd.prog 40 #[.int .u64 z, .int .i64 64] w fun e w' => e = .returned (.int .i64 (wrap64 z)) ∧ w = w' := by
  go_enter Tryd.func40, Tryd.ntmps40
  go_wp2
  go_ret
  exact ⟨rfl, rfl⟩
theorem signed32 (z : Int) (w : World) (h0 : 0 ≤ z) (hz : z < 18446744073709551616) : Calls Tryd.prog 40 #[.int .u64 z, .int .i64 32] w fun e w' => e = .returned (.int .i64 (wrap32 z)) ∧ w = w' := by
  go_enter Tryd.func40, Tryd.ntmps40
  go_wp2
  go_ret
  exact ⟨ret_int' (sg32 z), rfl⟩
theorem signed16 (z : Int) (w : World) (h0 : 0 ≤ z) (hz : z < 18446744073709551616) : Calls Tryd.prog 40 #[.int .u64 z, .int .i64 16] w fun e w' => e = .returned (.int .i64 (IntKind.i16.wrap z)) ∧ w = w' := by
  go_enter Tryd.func40, Tryd.ntmps40
  go_wp2
  go_ret
  exact ⟨ret_int' (sg16 z), rfl⟩
theorem signed8 (z : Int) (w : World) (h0 : 0 ≤ z) (hz : z < 18446744073709551616) : Calls Tryd.prog 40 #[.int .u64 z, .int .i64 8] w fun e w' => e = .returned (.int .i64 (IntKind.i8.wrap z)) ∧ w = w' := by
  go_enter Tryd.func40, Tryd.ntmps40
  go_wp2
  go_ret
  exact ⟨ret_int' (sg8 z), rfl⟩

theorem rel_cell {a b k g : Nat} {x y : Int} {w : World} (hk : k < 10) (hb : Blk w g 4 ((relL a b x y).map Value.bool).toArray) : w.cell? ⟨g, k, none⟩ = some (.bool ((relL a b x y).getD k false)) := by
  rw [hb.cell k]
  simp only [List.getElem?_toArray, List.getElem?_map]
  rw [List.getElem?_eq_getElem (by simp [relL]; omega), List.getD_eq_getElem?_getD, List.getElem?_eq_getElem (by simp [relL]; omega)]
  rfl
set_option maxHeartbeats 1000000 in
theorem compare64 (k a b : Nat) (w : World) (hk : k < 10) (ha : a < 18446744073709551616) (hb : b < 18446744073709551616) : Calls Tryd.prog 36 #[.int .i64 k, .int .u64 a, .int .u64 b, .int .i64 64] w fun e w' => e = .returned (.int .u64 (b01 ((relL a b (wrap64 a) (wrap64 b)).getD k false))) ∧ Below w.heap.size w w' := by
  have hc := fun (w : World) => rel_cell (a := a) (b := b) (x := wrap64 a) (y := wrap64 b) hk (Blk.new w 4 _)
  have HC := Lib.hid hc
  have hk2 : (k : Int) < 10 := by omega
  have hk3 : k < 10 := hk
  clear hc
  go_enter Tryd.func36, Tryd.ntmps36
  go_wp2_with fail
  refine (signed64 (a : Int) _ (by omega) (by omega)).mono ?_
  rintro e w1 ⟨rfl, rfl⟩
  go_wp2_with fail
  refine (signed64 (b : Int) _ (by omega) (by omega)).mono ?_
  rintro e w1 ⟨rfl, rfl⟩
  obtain ⟨r, hr⟩ : ∃ r, (relL a b (wrap64 a) (wrap64 b)).getD k false = r := ⟨_, rfl⟩
  have hcc := HC.out w
  rw [hr] at hcc
  have HR := Lib.hid hr
  generalize HX : wrap64 (a : Int) = x at hcc ⊢
  generalize HY : wrap64 (b : Int) = y at hcc ⊢
  simp only [relL, List.map_cons, List.map_nil, List.toArray] at hcc
  clear HX HY HC hr
  go_wp2_with fail
  refine (bool1_any r _).mono ?_
  rintro e w1 ⟨rfl, rfl⟩
  go_wp2
  go_ret
  exact ⟨ret_int' (by rw [HR.out]), (Below.refl _ _).alloc (Nat.le_refl _) _⟩
set_option maxHeartbeats 1000000 in
theorem compare32 (k a b : Nat) (w : World) (hk : k < 10) (ha : a < 18446744073709551616) (hb : b < 18446744073709551616) : Calls Tryd.prog 36 #[.int .i64 k, .int .u64 a, .int .u64 b, .int .i64 32] w fun e w' => e = .returned (.int .u64 (b01 ((relL a b (wrap32 a) (wrap32 b)).getD k false))) ∧ Below w.heap.size w w' := by
  have hc := fun (w : World) => rel_cell (a := a) (b := b) (x := wrap32 a) (y := wrap32 b) hk (Blk.new w 4 _)
  have HC := Lib.hid hc
  have hk2 : (k : Int) < 10 := by omega
  have hk3 : k < 10 := hk
  clear hc
  go_enter Tryd.func36, Tryd.ntmps36
  go_wp2_with fail
  refine (signed32 (a : Int) _ (by omega) (by omega)).mono ?_
  rintro e w1 ⟨rfl, rfl⟩
  go_wp2_with fail
  refine (signed32 (b : Int) _ (by omega) (by omega)).mono ?_
  rintro e w1 ⟨rfl, rfl⟩
  obtain ⟨r, hr⟩ : ∃ r, (relL a b (wrap32 a) (wrap32 b)).getD k false = r := ⟨_, rfl⟩
  have hcc := HC.out w
  rw [hr] at hcc
  have HR := Lib.hid hr
  generalize HX : wrap32 (a : Int) = x at hcc ⊢
  generalize HY : wrap32 (b : Int) = y at hcc ⊢
  simp only [relL, List.map_cons, List.map_nil, List.toArray] at hcc
  clear HX HY HC hr
  go_wp2_with fail
  refine (bool1_any r _).mono ?_
  rintro e w1 ⟨rfl, rfl⟩
  go_wp2
  go_ret
  exact ⟨ret_int' (by rw [HR.out]), (Below.refl _ _).alloc (Nat.le_refl _) _⟩
end Go.Proofs.YtpfbdaemdghogaaDoor
