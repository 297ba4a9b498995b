/-
  What an operator of two numbers answers: num.two.
  Conditions: the numbers fit the type.
-/
import Derived.Test.YtpfbdaemdghogaaDoorNumTwo
namespace Go.Bk.Num
open Go Go.RowKit
theorem i64_and63 (n : Int) : bits .and .i64 n 63 = n % 64 := by
  have h127 : (BitVec.ofInt 64 63).toNat = 2 ^ 6 - 1 := by decide
  have key : (BitVec.ofInt 64 n &&& BitVec.ofInt 64 63).toNat = (n % ((2 ^ 64 : Nat) : Int)).toNat % 2 ^ 6 := by
    rw [BitVec.toNat_and, BitVec.toNat_ofInt, h127, Nat.and_two_pow_sub_one_eq_mod]
  show IntKind.i64.wrap ((BitVec.ofInt 64 n &&& BitVec.ofInt 64 63).toNat : Nat) = n % 64
  rw [key, IntKind.wrap_i64]
  omega
theorem i64_and31 (n : Int) : bits .and .i64 n 31 = n % 32 := by
  have h127 : (BitVec.ofInt 64 31).toNat = 2 ^ 5 - 1 := by decide
  have key : (BitVec.ofInt 64 n &&& BitVec.ofInt 64 31).toNat = (n % ((2 ^ 64 : Nat) : Int)).toNat % 2 ^ 5 := by
    rw [BitVec.toNat_and, BitVec.toNat_ofInt, h127, Nat.and_two_pow_sub_one_eq_mod]
  show IntKind.i64.wrap ((BitVec.ofInt 64 n &&& BitVec.ofInt 64 31).toNat : Nat) = n % 32
  rw [key, IntKind.wrap_i64]
  omega
/-- what an operator of two numbers answers: its kind, its type, its place -/
def twoV (c d k : Int) (a b : Nat) : Int × Int :=
  if d = 126 then
    if c = 1 then (b01 ((relL a b (wrap64 a) (wrap64 b)).getD k.toNat false), 0)
    else if 3 ≤ k ∧ k ≤ 6 then divV 18446744073709551616 (-9223372036854775808) (k - 3) a b (wrap64 a) (wrap64 b)
    else ((ariL .u64 64 a b (b % 64) (wrap64 a)).getD k.toNat 0, 0)
  else
    if c = 1 then (b01 ((relL a b (wrap32 a) (wrap32 b)).getD k.toNat false), 0)
    else if 3 ≤ k ∧ k ≤ 6 then divV 4294967296 (-2147483648) (k - 3) a b (wrap32 a) (wrap32 b)
    else ((ariL .u32 32 a b (b % 32) (wrap32 a)).getD k.toNat 0, 0)
theorem wrap64_bd (z : Int) : -9223372036854775808 ≤ wrap64 z ∧ wrap64 z ≤ 9223372036854775807 := by unfold wrap64; omega
theorem wrap32_bd (z : Int) : -2147483648 ≤ wrap32 z ∧ wrap32 z ≤ 2147483647 := by unfold wrap32; omega
end Go.Bk.Num
namespace Go.Proofs.YtpfbdaemdghogaaDoor
open Go.RowKit Go.Bk Go.Bk.Num
set_option linter.unusedVariables false
set_option linter.unusedSimpArgs false

def TwoPost (p : Int × Int) (w : World) (e : Ending) (w' : World) : Prop := e = .returned (.tuple #[.int .u64 p.1, .int .i64 p.2]) ∧ Below w.heap.size w w'

theorem div32_rng (k : Int) (a b : Nat) (x y : Int) (ha : a < 4294967296) : 0 ≤ (divV 4294967296 (-2147483648) k a b x y).1 ∧ (divV 4294967296 (-2147483648) k a b x y).1 < 4294967296 := by
  have h1 : (a : Int) / b = ((a / b : Nat) : Int) := by simp
  have h2 := Nat.div_le_self a b
  have h5 : 0 ≤ (a : Int) / b := Int.ediv_nonneg (by omega) (by omega)
  have h3 : (a : Int) % b = ((a % b : Nat) : Int) := by simp
  have h4 := Nat.mod_le a b
  unfold divV
  repeat' split
  all_goals (simp only; omega)
theorem u32_bits_rng (o : BinOp) (x y : Int) : 0 ≤ bits o .u32 x y ∧ bits o .u32 x y < 4294967296 := by
  have h : ∃ z, bits o .u32 x y = IntKind.u32.wrap z := ⟨_, rfl⟩
  obtain ⟨z, hz⟩ := h
  rw [hz, IntKind.wrap_u32]
  omega
theorem ari32_rng (a b by_ : Nat) (x : Int) (ha : a < 4294967296) (k : Nat) : 0 ≤ (ariL .u32 32 a b by_ x).getD k 0 ∧ (ariL .u32 32 a b by_ x).getD k 0 < 4294967296 := by
  have h1 : (a : Int) / 2 ^ by_ = ((a / 2 ^ by_ : Nat) : Int) := by simp
  have h2 := Nat.div_le_self a (2 ^ by_)
  have h5 : 0 ≤ (a : Int) / 2 ^ by_ := Int.ediv_nonneg (by omega) (Int.le_of_lt (Int.pow_pos (by omega)))
  have hb := fun o x y => u32_bits_rng o x y
  unfold ariL
  match k with
  | 0 => simp only [List.getD_cons_zero, List.getD_cons_succ, IntKind.wrap_u32]; omega
  | 1 => simp only [List.getD_cons_zero, List.getD_cons_succ, IntKind.wrap_u32]; omega
  | 2 => simp only [List.getD_cons_zero, List.getD_cons_succ, IntKind.wrap_u32]; omega
  | 3 => simp
  | 4 => simp
  | 5 => simp
  | 6 => simp
  | 7 => simp only [List.getD_cons_zero, List.getD_cons_succ]; exact hb _ _ _
  | 8 => simp only [List.getD_cons_zero, List.getD_cons_succ]; exact hb _ _ _
  | 9 => simp only [List.getD_cons_zero, List.getD_cons_succ]; exact hb _ _ _
  | 10 => simp only [List.getD_cons_zero, List.getD_cons_succ, IntKind.wrap_u32]; omega
  | 11 => simp only [List.getD_cons_zero, List.getD_cons_succ, IntKind.wrap_u32]; omega
  | 12 => simp only [List.getD_cons_zero, List.getD_cons_succ]; omega
  | 13 => simp only [List.getD_cons_zero, List.getD_cons_succ]; exact hb _ _ _
  | 14 => simp only [List.getD_cons_zero, List.getD_cons_succ]; exact hb _ _ _
  | k + 15 => simp

set_option maxRecDepth 100000 in
set_option maxHeartbeats 2000000 in
theorem two_rel64 (a0 b0 : Int) (k a b : Nat) (w : World) (hk : k < 10) (ha : a < 18446744073709551616) (hb : b < 18446744073709551616) :
    Calls Tryd.prog 32 #[.agg #[.int .i64 a0, .int .i64 b0, .int .i64 1, .int .i64 126], .int .i64 k, .int .u64 a, .int .u64 b] w (TwoPost (twoV 1 126 k a b) w) := by
  have HV := Lib.hid (show twoV 1 126 k a b = (b01 ((relL a b (wrap64 a) (wrap64 b)).getD k false), 0) by simp [twoV])
  obtain ⟨y, HY⟩ : ∃ y, (relL a b (wrap64 a) (wrap64 b)).getD k false = y := ⟨_, rfl⟩
  have hcell : ∀ W : World, (W.alloc (.cells ((relL a b (wrap64 a) (wrap64 b)).map Value.bool).toArray 4)).cell? ⟨W.heap.size, k, none⟩ = some (.bool y) := fun W => by
    rw [(Blk.new W 4 _).cell k]
    simp only [List.getElem?_toArray, List.getElem?_map]
    rw [List.getElem?_eq_getElem (by simp [relL]; omega), ← HY, List.getD_eq_getElem?_getD, List.getElem?_eq_getElem (by simp [relL]; omega)]
    rfl
  rw [HY] at HV
  have HC := Lib.hid hcell
  clear HY hcell
  go_enter Tryd.func32, Tryd.ntmps32
  go_wp2_with fail
  refine (rel64_any a b _ _ _).mono ?_
  rintro e w1 ⟨rfl, rfl⟩
  have hcell := HC.out (w.alloc (.cells #[.int .i64 a0, .int .i64 b0, .int .i64 1, .int .i64 126] 43))
  simp only [World.size_alloc] at hcell
  go_wp2_with fail
  refine (one_any y _).mono ?_
  rintro e w1 ⟨rfl, rfl⟩
  go_wp2
  go_ret2
  unfold TwoPost
  rw [HV.out]
  exact ⟨rfl, ((Below.refl _ _).alloc (Nat.le_refl _) _).alloc (by simp) _⟩

set_option maxRecDepth 100000 in
set_option maxHeartbeats 2000000 in
theorem two_rel32 (a0 b0 : Int) (k a b : Nat) (w : World) (hk : k < 10) (ha : a < 4294967296) (hb : b < 4294967296) :
    Calls Tryd.prog 32 #[.agg #[.int .i64 a0, .int .i64 b0, .int .i64 1, .int .i64 127], .int .i64 k, .int .u64 a, .int .u64 b] w (TwoPost (twoV 1 127 k a b) w) := by
  have HV := Lib.hid (show twoV 1 127 k a b = (b01 ((relL a b (wrap32 a) (wrap32 b)).getD k false), 0) by simp [twoV])
  obtain ⟨y, HY⟩ : ∃ y, (relL a b (wrap32 a) (wrap32 b)).getD k false = y := ⟨_, rfl⟩
  have hcell : ∀ W : World, (W.alloc (.cells ((relL a b (wrap32 a) (wrap32 b)).map Value.bool).toArray 4)).cell? ⟨W.heap.size, k, none⟩ = some (.bool y) := fun W => by
    rw [(Blk.new W 4 _).cell k]
    simp only [List.getElem?_toArray, List.getElem?_map]
    rw [List.getElem?_eq_getElem (by simp [relL]; omega), ← HY, List.getD_eq_getElem?_getD, List.getElem?_eq_getElem (by simp [relL]; omega)]
    rfl
  rw [HY] at HV
  have HC := Lib.hid hcell
  clear HY hcell
  go_enter Tryd.func32, Tryd.ntmps32
  go_wp2_with fail
  refine (rel32_any a b _ _ _).mono ?_
  rintro e w1 ⟨rfl, rfl⟩
  have hcell := HC.out (w.alloc (.cells #[.int .i64 a0, .int .i64 b0, .int .i64 1, .int .i64 127] 43))
  simp only [World.size_alloc] at hcell
  go_wp2_with fail
  refine (one_any y _).mono ?_
  rintro e w1 ⟨rfl, rfl⟩
  go_wp2
  go_ret2
  unfold TwoPost
  rw [HV.out]
  exact ⟨rfl, ((Below.refl _ _).alloc (Nat.le_refl _) _).alloc (by simp) _⟩

set_option maxRecDepth 100000 in
set_option maxHeartbeats 2000000 in
theorem two_div64 (a0 b0 : Int) (k a b : Nat) (w : World) (hk : 3 ≤ k) (hk2 : k ≤ 6) (ha : a < 18446744073709551616) (hb : b < 18446744073709551616) :
    Calls Tryd.prog 32 #[.agg #[.int .i64 a0, .int .i64 b0, .int .i64 3, .int .i64 126], .int .i64 k, .int .u64 a, .int .u64 b] w (TwoPost (twoV 3 126 k a b) w) := by
  have HV := Lib.hid (show twoV 3 126 k a b = divV 18446744073709551616 (-9223372036854775808) ((k : Int) - 3) a b (wrap64 a) (wrap64 b) by simp [twoV, hk, hk2]; omega)
  have hd : divB k = true := by simp [divB]; omega
  have q1 := wrap64_bd a
  have q2 := wrap64_bd b
  have q3 : wrap64 (b : Int) = 0 → b = 0 := by unfold wrap64; omega
  have Q3 := Lib.hid q3
  clear q3
  generalize HR : divV 18446744073709551616 (-9223372036854775808) ((k : Int) - 3) a b (wrap64 a) (wrap64 b) = R at *
  replace HR := Lib.hid HR
  obtain ⟨r1, r2⟩ := R
  go_enter Tryd.func32, Tryd.ntmps32
  go_wp2_with fail
  refine (division_any k _).mono ?_
  rintro e w1 ⟨rfl, rfl⟩
  rw [hd]
  go_wp2_with fail
  refine (div64_any _ a b _ _ _ ha hb q1.1 q1.2 q2.1 q2.2 Q3.out).mono ?_
  rintro e w1 ⟨rfl, rfl⟩
  rw [HR.out]
  go_wp2
  go_ret2
  unfold TwoPost
  rw [HV.out]
  exact ⟨rfl, (Below.refl _ _).alloc (Nat.le_refl _) _⟩

set_option maxRecDepth 100000 in
set_option maxHeartbeats 2000000 in
theorem two_div32 (a0 b0 : Int) (k a b : Nat) (w : World) (hk : 3 ≤ k) (hk2 : k ≤ 6) (ha : a < 4294967296) (hb : b < 4294967296) :
    Calls Tryd.prog 32 #[.agg #[.int .i64 a0, .int .i64 b0, .int .i64 3, .int .i64 127], .int .i64 k, .int .u64 a, .int .u64 b] w (TwoPost (twoV 3 127 k a b) w) := by
  have HV := Lib.hid (show twoV 3 127 k a b = divV 4294967296 (-2147483648) ((k : Int) - 3) a b (wrap32 a) (wrap32 b) by simp [twoV, hk, hk2]; omega)
  have hd : divB k = true := by simp [divB]; omega
  have q1 := wrap32_bd a
  have q2 := wrap32_bd b
  have q3 : wrap32 (b : Int) = 0 → b = 0 := by unfold wrap32; omega
  have q4 := div32_rng ((k : Int) - 3) a b (wrap32 a) (wrap32 b) ha
  have Q3 := Lib.hid q3
  clear q3
  generalize HR : divV 4294967296 (-2147483648) ((k : Int) - 3) a b (wrap32 a) (wrap32 b) = R at *
  replace HR := Lib.hid HR
  obtain ⟨r1, r2⟩ := R
  go_enter Tryd.func32, Tryd.ntmps32
  go_wp2_with fail
  refine (division_any k _).mono ?_
  rintro e w1 ⟨rfl, rfl⟩
  rw [hd]
  go_wp2_with fail
  refine (division_any k _).mono ?_
  rintro e w1 ⟨rfl, rfl⟩
  rw [hd]
  go_wp2_with fail
  refine (div32_any _ a b _ _ _ ha hb q1.1 q1.2 q2.1 q2.2 Q3.out).mono ?_
  rintro e w1 ⟨rfl, rfl⟩
  rw [HR.out]
  go_wp2
  go_ret2
  unfold TwoPost
  rw [HV.out]
  exact ⟨rfl, (Below.refl _ _).alloc (Nat.le_refl _) _⟩

set_option maxRecDepth 100000 in
set_option maxHeartbeats 2000000 in
theorem two_ari64 (a0 b0 : Int) (k a b : Nat) (w : World) (hk : k < 3 ∨ 6 < k) (hk2 : k < 15) (ha : a < 18446744073709551616) (hb : b < 18446744073709551616) :
    Calls Tryd.prog 32 #[.agg #[.int .i64 a0, .int .i64 b0, .int .i64 3, .int .i64 126], .int .i64 k, .int .u64 a, .int .u64 b] w (TwoPost (twoV 3 126 k a b) w) := by
  have HV := Lib.hid (show twoV 3 126 k a b = ((ariL .u64 64 a b (b % 64) (wrap64 a)).getD k 0, 0) by
    rw [twoV, if_pos rfl, if_neg (by decide), if_neg (by omega)]
    simp)
  have hd : divB k = false := by simp [divB]; omega
  have q1 := wrap64_bd a
  have hby : bits .and .i64 (wrap64 (b : Int)) 63 = ((b % 64 : Nat) : Int) := by
    rw [i64_and63]
    unfold wrap64
    omega
  obtain ⟨y, HY⟩ : ∃ y, (ariL .u64 64 a b (b % 64) (wrap64 a)).getD k 0 = y := ⟨_, rfl⟩
  have hcell : ∀ W : World, (W.alloc (.cells ((ariL .u64 64 a b (b % 64) (wrap64 a)).map (Value.int .u64)).toArray 23)).drew.cell? ⟨W.heap.size, k, none⟩ = some (.int .u64 y) := fun W => by
    rw [(Blk.new W 23 _).drew.cell k]
    simp only [List.getElem?_toArray, List.getElem?_map]
    rw [List.getElem?_eq_getElem (by simp [ariL]; omega), ← HY, List.getD_eq_getElem?_getD, List.getElem?_eq_getElem (by simp [ariL]; omega)]
    rfl
  rw [HY] at HV
  have HC := Lib.hid hcell
  have HBY := Lib.hid hby
  clear HY hcell hby
  go_enter Tryd.func32, Tryd.ntmps32
  go_wp2_with fail
  refine (division_any k _).mono ?_
  rintro e w1 ⟨rfl, rfl⟩
  rw [hd]
  go_wp2_with fail
  refine (division_any k _).mono ?_
  rintro e w1 ⟨rfl, rfl⟩
  rw [hd]
  go_wp2_with fail
  refine (ari64_any a b _ _ ha hb q1.1 q1.2 _ HBY.out (Nat.mod_lt _ (by omega))).mono ?_
  rintro e w1 ⟨rfl, rfl⟩
  have hcell := HC.out (w.alloc (.cells #[.int .i64 a0, .int .i64 b0, .int .i64 3, .int .i64 126] 43))
  simp only [World.size_alloc] at hcell
  go_wp2
  go_ret2
  unfold TwoPost
  rw [HV.out]
  exact ⟨rfl, (((Below.refl _ _).alloc (Nat.le_refl _) _).alloc (by simp) _).drew⟩

set_option maxRecDepth 100000 in
set_option maxHeartbeats 2000000 in
theorem two_ari32 (a0 b0 : Int) (k a b : Nat) (w : World) (hk : k < 3 ∨ 6 < k) (hk2 : k < 15) (ha : a < 4294967296) (hb : b < 4294967296) :
    Calls Tryd.prog 32 #[.agg #[.int .i64 a0, .int .i64 b0, .int .i64 3, .int .i64 127], .int .i64 k, .int .u64 a, .int .u64 b] w (TwoPost (twoV 3 127 k a b) w) := by
  have HV := Lib.hid (show twoV 3 127 k a b = ((ariL .u32 32 a b (b % 32) (wrap32 a)).getD k 0, 0) by
    rw [twoV, if_neg (by decide), if_neg (by decide), if_neg (by omega)]
    simp)
  have hd : divB k = false := by simp [divB]; omega
  have q1 := wrap32_bd a
  have hby : bits .and .i64 (b : Int) 31 = ((b % 32 : Nat) : Int) := by
    rw [i64_and31]
    simp
  obtain ⟨y, HY⟩ : ∃ y, (ariL .u32 32 a b (b % 32) (wrap32 a)).getD k 0 = y := ⟨_, rfl⟩
  have hy : 0 ≤ y ∧ y < 4294967296 := by rw [← HY]; exact ari32_rng a b (b % 32) (wrap32 a) ha k
  have hcell : ∀ W : World, (W.alloc (.cells ((ariL .u32 32 a b (b % 32) (wrap32 a)).map (Value.int .u32)).toArray 49)).drew.cell? ⟨W.heap.size, k, none⟩ = some (.int .u32 y) := fun W => by
    rw [(Blk.new W 49 _).drew.cell k]
    simp only [List.getElem?_toArray, List.getElem?_map]
    rw [List.getElem?_eq_getElem (by simp [ariL]; omega), ← HY, List.getD_eq_getElem?_getD, List.getElem?_eq_getElem (by simp [ariL]; omega)]
    rfl
  rw [HY] at HV
  have HC := Lib.hid hcell
  have HBY := Lib.hid hby
  clear HY hcell hby
  go_enter Tryd.func32, Tryd.ntmps32
  go_wp2_with fail
  refine (division_any k _).mono ?_
  rintro e w1 ⟨rfl, rfl⟩
  rw [hd]
  go_wp2_with fail
  refine (division_any k _).mono ?_
  rintro e w1 ⟨rfl, rfl⟩
  rw [hd]
  go_wp2_with fail
  refine (ari32_any a b _ _ ha hb q1.1 q1.2 _ HBY.out (Nat.mod_lt _ (by omega))).mono ?_
  rintro e w1 ⟨rfl, rfl⟩
  have hcell := HC.out (w.alloc (.cells #[.int .i64 a0, .int .i64 b0, .int .i64 3, .int .i64 127] 43))
  simp only [World.size_alloc] at hcell
  go_wp2
  go_ret2
  unfold TwoPost
  rw [HV.out]
  exact ⟨rfl, (((Below.refl _ _).alloc (Nat.le_refl _) _).alloc (by simp) _).drew⟩

end Go.Proofs.YtpfbdaemdghogaaDoor
