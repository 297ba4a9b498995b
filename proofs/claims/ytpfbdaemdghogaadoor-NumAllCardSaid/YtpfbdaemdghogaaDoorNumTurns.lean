/-
  NumTurns: what the statement's function answers.
  Conditions: the library's two tables hold what their initialisers lay.
-/
import Derived.Test.YtpfbdaemdghogaaDoorNumAlive
import Derived.Test.YtpfbdaemdghogaaDoorRot
namespace Go.Proofs.YtpfbdaemdghogaaDoor
open Go.RowKit Go.Bk Go.Bk.Num
set_option linter.unusedVariables false
set_option linter.unusedSimpArgs false

theorem or64 {a b : Nat} (ha : a < 18446744073709551616) (hb : b < 18446744073709551616) : bits .or .u64 (a : Int) (b : Int) = ((a ||| b : Nat) : Int) := bits_or_u64_nat a b ha hb
theorem ari13 {a b : Nat} (n : Nat) (hn : n ≤ 64) (ha : a < 18446744073709551616) : bits .or .u64 (IntKind.u64.wrap ((a : Int) * 2 ^ n)) ((a : Int) / 2 ^ (64 - n)) = ((rot 64 a n : Nat) : Int) := by
  have e1 : IntKind.u64.wrap ((a : Int) * 2 ^ n) = ((a * 2 ^ n % 2 ^ 64 : Nat) : Int) := by rw [IntKind.wrap_u64]; simp
  have e2 : (a : Int) / 2 ^ (64 - n) = ((a / 2 ^ (64 - n) : Nat) : Int) := by simp
  rw [e1, e2, or64 (Nat.mod_lt _ (by decide)) (Nat.lt_of_le_of_lt (Nat.div_le_self _ _) ha), shl_or hn ha]
theorem ari14 {a b : Nat} (n : Nat) (hn : n ≤ 64) (ha : a < 18446744073709551616) : bits .or .u64 ((a : Int) / 2 ^ n) (IntKind.u64.wrap ((a : Int) * 2 ^ (64 - n))) = ((rot 64 a (64 - n) : Nat) : Int) := by
  have e1 : IntKind.u64.wrap ((a : Int) * 2 ^ (64 - n)) = ((a * 2 ^ (64 - n) % 2 ^ 64 : Nat) : Int) := by rw [IntKind.wrap_u64]; simp
  have e2 : (a : Int) / 2 ^ n = ((a / 2 ^ n : Nat) : Int) := by simp
  rw [e1, e2, or64 (Nat.lt_of_le_of_lt (Nat.div_le_self _ _) ha) (Nat.mod_lt _ (by decide)), shr_or hn ha]
theorem ev_two {op a0 b0 c d : Int} (hg : grpOf op = some (a0, b0, c, d)) (hL : (sigL op).length = 2) (hc : c = 1 ∨ c = 3) (hd : d = 126) (a b : Nat) : evalV op [a, b] = twoV c d (op - a0) a b := by
  subst hd
  have hf : ∀ x, fitsN 126 x = true := fun x => by simp [fitsN]
  rw [evalV, hg]
  simp only [List.length_cons, List.length_nil, List.all_cons, List.all_nil, hf, hL]
  rcases hc with rfl | rfl <;> simp [kindV]
theorem ev137 {a b : Nat} (ha : a < 18446744073709551616) : evalV 137 [a, b] = (((rot 64 a (b % 64) : Nat) : Int), 0) := by
  rw [ev_two (show grpOf 137 = some (124, 15, 3, 126) by decide +kernel) (by decide +kernel) (.inr rfl) rfl]
  have : twoV 3 126 (137 - 124) a b = (bits .or .u64 (IntKind.u64.wrap ((a : Int) * 2 ^ (b % 64))) ((a : Int) / 2 ^ (64 - b % 64)), 0) := by simp [twoV, ariL]
  rw [this, ari13 (b := b) (b % 64) (by omega) ha]
theorem ev138 {a b : Nat} (ha : a < 18446744073709551616) : evalV 138 [a, b] = (((rot 64 a (64 - b % 64) : Nat) : Int), 0) := by
  rw [ev_two (show grpOf 138 = some (124, 15, 3, 126) by decide +kernel) (by decide +kernel) (.inr rfl) rfl]
  have : twoV 3 126 (138 - 124) a b = (bits .or .u64 ((a : Int) / 2 ^ (b % 64)) (IntKind.u64.wrap ((a : Int) * 2 ^ (64 - b % 64))), 0) := by simp [twoV, ariL]
  rw [this, ari14 (b := b) (b % 64) (by omega) ha]
theorem ev123 {a : Nat} : evalV 123 [a] = (((Lib.popAux 64 a : Nat) : Int), 0) := by
  have hf : fitsN 126 a = true := by simp [fitsN]
  have hg : grpOf 123 = some (121, 3, 2, 126) := by decide +kernel
  have hL : (sigL 123).length = 1 := by decide +kernel
  rw [evalV, hg]
  simp only [List.length_cons, List.length_nil, List.all_cons, List.all_nil, hf, hL]
  simp [kindV, cntL]

set_option maxRecDepth 100000 in
set_option maxHeartbeats 2000000 in
theorem NumTurns_true (w : World) (hT : Tabs w) (a : Int) (ha : (Lit.int .u64 a).wf = true) (b : Int) (hb : (Lit.int .u64 b).wf = true) :
    Calls Tryd.prog 6 #[.int .u64 a, .int .u64 b] w fun e w' => e = .returned (.bool true) ∧ Below w.heap.size w w' := by
  obtain ⟨ha1, ha2⟩ := u64_bounds ha
  obtain ⟨x, rfl⟩ := Int.eq_ofNat_of_zero_le ha1
  obtain ⟨hb1, hb2⟩ := u64_bounds hb
  obtain ⟨y, rfl⟩ := Int.eq_ofNat_of_zero_le hb1
  have hx : x < 18446744073709551616 := by omega
  have hy : y < 18446744073709551616 := by omega
  have E1 := Lib.hid (@ev137 x y hx)
  have hr : rot 64 x (y % 64) < 18446744073709551616 := rot_lt (by omega) hx
  have E2 := Lib.hid (show evalV 138 [rot 64 x (y % 64), y] = ((x : Int), 0) by rw [ev138 hr, rot_back (by omega) hx])
  have E3 := Lib.hid (@ev123 x)
  have E4 := Lib.hid (show evalV 123 [rot 64 x (y % 64)] = (((Lib.popAux 64 x : Nat) : Int), 0) by rw [ev123, rot_pop (by omega) hx])
  generalize rot 64 x (y % 64) = r at E1 E2 E4 hr
  generalize Lib.popAux 64 x = p at E3 E4
  have HT := Lib.hid hT
  have b0 := Lib.hid (show Below w.heap.size w (w.alloc (.cells #[.int .u64 (x : Int), .int .u64 (y : Int)] 23)) from (Below.refl _ _).alloc (Nat.le_refl _) _)
  have HT0 := Lib.hid (hT.below b0.out hT.2.2)
  have gx : ((x : Int) == (x : Int)) = true := by simp
  have gp : ((p : Int) == (p : Int)) = true := by simp
  clear hT ha hb ha1 ha2 hb1 hb2
  go_enter Tryd.func6, Tryd.ntmps6
  go_wp2_with fail
  refine (Eval_any 137 _ 2 2 [x, y] _ (by omega) (by omega) (src2 rfl x y) (all2 hx hy) HT0.out).mono ?_
  rintro e w1 ⟨rfl, hb1⟩
  rw [E1.out]
  have HB1 := Lib.hid (b0.out.trans (hb1.mono (by simp)))
  clear hb1
  have HT1 := Lib.hid (HT.out.below HB1.out HT.out.2.2)
  have b1 := Lib.hid (show Below w1.heap.size w1 (w1.alloc (.cells #[.int .u64 (r : Int), .int .u64 (y : Int)] 23)) from (Below.refl _ _).alloc (Nat.le_refl _) _)
  go_wp2_with fail
  refine (Eval_any 138 _ 2 2 [r, y] _ (by omega) (by omega) (src2 rfl r y) (all2 hr hy) (HT1.out.below b1.out HT1.out.2.2)).mono ?_
  rintro e w2 ⟨rfl, hb2⟩
  rw [E2.out]
  have HB2 := Lib.hid (HB1.out.trans ((b1.out.trans (hb2.mono (by simp))).mono HB1.out.size))
  clear hb2
  have HT2 := Lib.hid (HT.out.below HB2.out HT.out.2.2)
  have b2 := Lib.hid (show Below w2.heap.size w2 (w2.alloc (.cells #[.int .u64 (x : Int)] 23)) from (Below.refl _ _).alloc (Nat.le_refl _) _)
  go_wp2_with fail
  refine (Eval_any 123 _ 1 1 [x] _ (by omega) (by omega) (src1 rfl x) (all1 hx) (HT2.out.below b2.out HT2.out.2.2)).mono ?_
  rintro e w3 ⟨rfl, hb3⟩
  rw [E3.out]
  have HB3 := Lib.hid (HB2.out.trans ((b2.out.trans (hb3.mono (by simp))).mono HB2.out.size))
  clear hb3
  have HT3 := Lib.hid (HT.out.below HB3.out HT.out.2.2)
  have b3 := Lib.hid (show Below w3.heap.size w3 (w3.alloc (.cells #[.int .u64 (r : Int)] 23)) from (Below.refl _ _).alloc (Nat.le_refl _) _)
  go_wp2_with fail
  refine (Eval_any 123 _ 1 1 [r] _ (by omega) (by omega) (src1 rfl r) (all1 hr) (HT3.out.below b3.out HT3.out.2.2)).mono ?_
  rintro e w4 ⟨rfl, hb4⟩
  rw [E4.out]
  have HB4 := Lib.hid (HB3.out.trans ((b3.out.trans (hb4.mono (by simp))).mono HB3.out.size))
  clear hb4
  have HT4 := Lib.hid (HT.out.below HB4.out HT.out.2.2)
  go_wp2_with fail
  refine (alive_any _ HT4.out).mono ?_
  rintro e w5 ⟨rfl, hb5⟩
  have HB5 := Lib.hid (HB4.out.trans (hb5.mono HB4.out.size))
  clear hb5
  go_wp2
  go_ret
  exact ⟨rfl, HB5.out⟩
end Go.Proofs.YtpfbdaemdghogaaDoor
