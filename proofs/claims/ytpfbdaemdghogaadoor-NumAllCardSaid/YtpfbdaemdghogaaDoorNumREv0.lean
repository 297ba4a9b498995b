/-
  The reference's Eval answers what the program's Eval answers: evalV.
  Conditions: the numbers are of 64 bits.
-/
import Derived.Test.YtpfbdaemdghogaaDoorNumRWhole
import Derived.Test.YtpfbdaemdghogaaDoorNumRBits
import Derived.Test.YtpfbdaemdghogaaDoorNumFit
namespace Go.Proofs.YtpfbdaemdghogaaDoor
open Go.RowKit Go.Bk Go.Bk.Num
set_option linter.unusedVariables false
set_option linter.unusedSimpArgs false
theorem comp64x (kk : Int) (k a b : Nat) (w : World) (hkk : kk = (k : Int)) (hk : k < 10) (ha : a < 18446744073709551616) (hb : b < 18446744073709551616) : Calls Tryd.prog 36 #[.int .i64 kk, .int .u64 a, .int .u64 b, .int .i64 64] w fun e w' => e = .returned (.int .u64 (b01 ((relL a b (wrap64 a) (wrap64 b)).getD k false))) ∧ Below w.heap.size w w' := by
  subst hkk; exact compare64 k a b w hk ha hb
theorem comp32x (kk : Int) (k a b : Nat) (w : World) (hkk : kk = (k : Int)) (hk : k < 10) (ha : a < 18446744073709551616) (hb : b < 18446744073709551616) : Calls Tryd.prog 36 #[.int .i64 kk, .int .u64 a, .int .u64 b, .int .i64 32] w fun e w' => e = .returned (.int .u64 (b01 ((relL a b (wrap32 a) (wrap32 b)).getD k false))) ∧ Below w.heap.size w w' := by
  subst hkk; exact compare32 k a b w hk ha hb
theorem bits64x (kk : Int) (k a : Nat) (w : World) (hkk : kk = (k : Int)) (hk : k < 3) (ha : a < 18446744073709551616) : Calls Tryd.prog 37 #[.int .i64 kk, .int .u64 a, .int .i64 64] w fun e w' => e = .returned (.int .u64 ((cntL 64 a).getD k 0)) ∧ Below w.heap.size w w' := by
  subst hkk; exact bits_any k a 64 w hk (.inl ⟨rfl, ha⟩)
theorem bits32x (kk : Int) (k a : Nat) (w : World) (hkk : kk = (k : Int)) (hk : k < 3) (ha : a < 4294967296) : Calls Tryd.prog 37 #[.int .i64 kk, .int .u64 a, .int .i64 32] w fun e w' => e = .returned (.int .u64 ((cntL 32 a).getD k 0)) ∧ Below w.heap.size w w' := by
  subst hkk; exact bits_any k a 32 w hk (.inr ⟨rfl, ha⟩)
theorem whol64x (kk : Int) (k a b : Nat) (w : World) (hkk : kk = (k : Int)) (hk : k < 15) (ha : a < 18446744073709551616) (hb : b < 18446744073709551616) : Calls Tryd.prog 38 #[.int .i64 kk, .int .u64 a, .int .u64 b, .int .i64 64] w fun e w' => e = .returned (.tuple #[.int .u64 (twoV 3 126 k a b).1, .int .i64 (twoV 3 126 k a b).2]) ∧ w' = w := by
  subst hkk; exact (whole64 k a b w hk ha hb).mono fun _ _ ⟨h1, h2⟩ => ⟨h1, h2.symm⟩
theorem whol32x (kk : Int) (k a b : Nat) (w : World) (hkk : kk = (k : Int)) (hk : k < 15) (ha : a < 4294967296) (hb : b < 4294967296) : Calls Tryd.prog 38 #[.int .i64 kk, .int .u64 a, .int .u64 b, .int .i64 32] w fun e w' => e = .returned (.tuple #[.int .u64 (twoV 3 127 k a b).1, .int .i64 (twoV 3 127 k a b).2]) ∧ w' = w := by
  subst hkk; exact (whole32 k a b w hk ha hb).mono fun _ _ ⟨h1, h2⟩ => ⟨h1, h2.symm⟩
theorem ret2_any {p q : Int × Int} (h : p = q) : Ending.returned (.tuple #[.int .u64 p.1, .int .i64 p.2]) = .returned (.tuple #[.int .u64 q.1, .int .i64 q.2]) := by rw [h]

theorem wid_w32 (x : Int) : wrap64 (wrap32 x) = wrap32 x := by unfold wrap64 wrap32; omega
theorem u64w64 (z : Int) : IntKind.u64.wrap z = IntKind.u64.wrap (wrap64 z) := by rw [wrap64_mod, IntKind.wrap_u64]
theorem u64m32 (z : Int) : IntKind.u64.wrap z % 4294967296 = wrap64 z % 4294967296 := by rw [mod32b]; unfold wrap64; omega
theorem ext64_8 (x : Nat) : IntKind.u64.wrap (IntKind.i8.wrap x) = extV 0 126 x := by rw [ext0n rfl]; exact u64w64 _
theorem ext64_16 (x : Nat) : IntKind.u64.wrap (IntKind.i16.wrap x) = extV 1 126 x := by rw [ext1n rfl]; exact u64w64 _
theorem ext64_32 (x : Nat) : IntKind.u64.wrap (wrap32 x) = extV 2 126 x := by rw [ext2n rfl]; exact u64w64 _
theorem ext32_8 (x : Nat) : IntKind.u64.wrap (IntKind.i8.wrap x) % 4294967296 = extV 0 127 x := by rw [ext0p rfl]; exact u64m32 _
theorem ext32_16 (x : Nat) : IntKind.u64.wrap (IntKind.i16.wrap x) % 4294967296 = extV 1 127 x := by rw [ext1p rfl]; exact u64m32 _
set_option maxRecDepth 100000 in
set_option maxHeartbeats 2000000 in
theorem reval_none (op : Int) (A : Option Addr) (n c : Nat) (l : List Nat) (w : World) (hg : grpOf op = none) :
    Calls Tryd.prog 11 #[.int .i64 op, .slice A n c] w (EvPost (evalV op l) w) := by
  have HV := Lib.hid (show evalV op l = (0, 1) by simp [evalV, hg])
  have HI := Lib.hid (show (grpOf op).isSome = false by simp [hg])
  have HL := Lib.hid (show (sigL op).length = 0 by simp [sigL, hg])
  clear hg
  go_enter Tryd.func11, Tryd.ntmps11
  go_wp2_with fail
  refine (RSig_any op _).mono ?_
  rintro e w1 ⟨A1, c1, rfl, ho, hb⟩
  rw [HI.out, HL.out]
  go_wp2
  go_ret2
  unfold EvPost
  rw [HV.out]
  exact ⟨rfl, hb⟩
set_option maxRecDepth 100000 in
set_option maxHeartbeats 2000000 in
theorem reval_len (op a b c d : Int) (A : Option Addr) (n cp : Nat) (l : List Nat) (w : World) (hg : grpOf op = some (a, b, c, d)) (hl : l.length = n) (hne : (sigL op).length ≠ n) :
    Calls Tryd.prog 11 #[.int .i64 op, .slice A n cp] w (EvPost (evalV op l) w) := by
  have HV := Lib.hid (show evalV op l = (0, 1) by simp [evalV, hg, hl, hne])
  have HI := Lib.hid (show (grpOf op).isSome = true by simp [hg])
  generalize HL : (sigL op).length = m at hne
  replace HL := Lib.hid HL
  have hnn : ((m : Int) != (n : Int)) = true := by simp; omega
  clear hg
  go_enter Tryd.func11, Tryd.ntmps11
  go_wp2_with fail
  refine (RSig_any op _).mono ?_
  rintro e w1 ⟨A1, c1, rfl, ho, hb⟩
  rw [HI.out, HL.out]
  go_wp2
  go_ret2
  unfold EvPost
  rw [HV.out]
  exact ⟨rfl, hb⟩

def RvRel (w1 : World) (n : Nat) (d : Int) (l : List Nat) (i : Value) (wr : World) : Prop := ∃ k : Nat, k ≤ n ∧ i = .int .i64 k ∧ Hid ((l.take k).all (fitsN d) = true) ∧ Hid (Below w1.heap.size w1 wr)

end Go.Proofs.YtpfbdaemdghogaaDoor
