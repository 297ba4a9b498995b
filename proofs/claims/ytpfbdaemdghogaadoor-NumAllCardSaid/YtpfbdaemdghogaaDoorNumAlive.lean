/-
  The probe that stands in each statement of layer 2: it answers true.
  Conditions: the library's two tables hold what their initialisers lay.
-/
import Derived.Test.YtpfbdaemdghogaaDoorNumEval
namespace Go.Proofs.YtpfbdaemdghogaaDoor
open Go.RowKit Go.Bk Go.Bk.Num
set_option linter.unusedVariables false
set_option linter.unusedSimpArgs false

theorem ev109 : evalV 109 [4294967289, 2] = (4294967293, 0) := by decide +kernel
theorem ev117 : evalV 117 [2147483648, 1] = (3221225472, 0) := by decide +kernel
theorem ev128 : evalV 128 [5, 0] = (0, 33) := by decide +kernel
theorem fit127 : fitsN 127 4294967295 = true := by decide +kernel

/-- two numbers in a row of their own -/
theorem src2 {w : World} {N : Nat} (h : w.heap.size = N) (x y : Nat) : Bk.Src (w.alloc (.cells #[.int .u64 x, .int .u64 y] 23)) (some ⟨N, 0, none⟩) 2 (u64V [x, y]) := by
  subst h
  exact src_lit w #[.int .u64 x, .int .u64 y] 23
theorem src1 {w : World} {N : Nat} (h : w.heap.size = N) (x : Nat) : Bk.Src (w.alloc (.cells #[.int .u64 x] 23)) (some ⟨N, 0, none⟩) 1 (u64V [x]) := by
  subst h
  exact src_lit w #[.int .u64 x] 23
theorem all2 {x y : Nat} (hx : x < 18446744073709551616) (hy : y < 18446744073709551616) : All64 [x, y] := fun z hz => by
  rcases List.mem_cons.1 hz with rfl | h
  · exact hx
  · rw [List.mem_singleton.1 h]; exact hy
theorem all1 {x : Nat} (hx : x < 18446744073709551616) : All64 [x] := fun z hz => by rw [List.mem_singleton.1 hz]; exact hx

set_option maxRecDepth 100000 in
set_option maxHeartbeats 2000000 in
theorem alive_any (w : World) (hT : Tabs w) : Calls Tryd.prog 12 #[] w fun e w' => e = .returned (.bool true) ∧ Below w.heap.size w w' := by
  have b0 := Lib.hid (show Below w.heap.size w (w.alloc (.cells #[.int .u64 ((4294967289 : Nat) : Int), .int .u64 ((2 : Nat) : Int)] 23)) from (Below.refl _ _).alloc (Nat.le_refl _) _)
  have HT := Lib.hid hT
  have HT0 := Lib.hid (hT.below b0.out hT.2.2)
  clear hT
  go_enter Tryd.func12, Tryd.ntmps12
  go_wp2_with fail
  refine (Eval_any 109 _ 2 2 [4294967289, 2] _ (by omega) (by omega) (src2 rfl 4294967289 2) (all2 (by omega) (by omega)) HT0.out).mono ?_
  rintro e w1 ⟨rfl, hb1⟩
  rw [ev109]
  have HB1 := Lib.hid (b0.out.trans (hb1.mono (by simp)))
  clear hb1
  have HT1 := Lib.hid (HT.out.below HB1.out HT.out.2.2)
  have b1 := Lib.hid (show Below w1.heap.size w1 (w1.alloc (.cells #[.int .u64 ((2147483648 : Nat) : Int), .int .u64 ((1 : Nat) : Int)] 23)) from (Below.refl _ _).alloc (Nat.le_refl _) _)
  go_wp2_with fail
  refine (Eval_any 117 _ 2 2 [2147483648, 1] _ (by omega) (by omega) (src2 rfl 2147483648 1) (all2 (by omega) (by omega)) (HT1.out.below b1.out HT1.out.2.2)).mono ?_
  rintro e w2 ⟨rfl, hb2⟩
  rw [ev117]
  have HB2 := Lib.hid (HB1.out.trans ((b1.out.trans (hb2.mono (by simp))).mono HB1.out.size))
  clear hb2
  have HT2 := Lib.hid (HT.out.below HB2.out HT.out.2.2)
  have b2 := Lib.hid (show Below w2.heap.size w2 (w2.alloc (.cells #[.int .u64 ((5 : Nat) : Int), .int .u64 ((0 : Nat) : Int)] 23)) from (Below.refl _ _).alloc (Nat.le_refl _) _)
  go_wp2_with fail
  refine (Eval_any 128 _ 2 2 [5, 0] _ (by omega) (by omega) (src2 rfl 5 0) (all2 (by omega) (by omega)) (HT2.out.below b2.out HT2.out.2.2)).mono ?_
  rintro e w3 ⟨rfl, hb3⟩
  rw [ev128]
  have HB3 := Lib.hid (HB2.out.trans ((b2.out.trans (hb3.mono (by simp))).mono HB2.out.size))
  clear hb3
  go_wp2_with fail
  refine (Fits_any 127 4294967295 _ (by omega)).mono ?_
  rintro e w4 ⟨rfl, rfl⟩
  rw [fit127]
  go_wp2
  go_ret
  exact ⟨rfl, HB3.out⟩
end Go.Proofs.YtpfbdaemdghogaaDoor
