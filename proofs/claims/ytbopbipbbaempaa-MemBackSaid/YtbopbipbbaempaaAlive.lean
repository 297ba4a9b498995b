/-
  The probe that stands in each statement of layer 3: it answers true.
  Conditions: none.
-/
import Derived.Test.YtbopbipbbaempaaRLoad
namespace Go.Proofs.Ytbopbipbbaempaa
open Go.RowKit Go.Bk Go.Bk.Mem Go.Shelf

theorem alive_load : loadV [200] 44 0 0 = (4294967240, 0) := by kernel_rfl
theorem alive_growM : (growM [] 512 2).length = 512 := by kernel_rfl
theorem alive_growR : growR 0 512 2 = 0 := by kernel_rfl

set_option maxRecDepth 100000 in
set_option maxHeartbeats 1000000 in
theorem alive_any (w : World) : Calls Try.prog 12 #[] w fun e w' => e = .returned (.bool true) ∧ Below w.heap.size w w' := by
  have hs0 : Bk.Src (w.alloc (.cells #[.int .u8 200] 5)) (some ⟨w.heap.size, 0, none⟩) 1 (bys [200]) := src_one_at rfl _ _
  have hb0 := Lib.hid (show Below w.heap.size w (w.alloc (.cells #[.int .u8 200] 5)) from (Below.refl _ _).alloc (Nat.le_refl _) _)
  have HS := Lib.hid hs0
  clear hs0
  go_enter Try.func12, Try.ntmps12
  go_wp2_with fail
  refine (Load_any _ 1 1 0 0 44 [200] _ HS.out (by unfold AllB; decide) (by omega) (by omega) (by omega) (by omega)).mono ?_
  rintro e w1 ⟨rfl, hb1⟩
  rw [alive_load]
  have HB1 := Lib.hid (hb0.out.trans (hb1.mono (by simp)))
  clear hb1
  go_wp2_with fail
  refine (Grow_any none 0 0 [] 512 2 _ (Bk.Src.nil _ _) (fun _ => ⟨rfl, rfl⟩) (by omega) (by omega) (by omega) (by omega)).mono ?_
  rintro e w2 ⟨A, c, rfl, ho, hb2⟩
  rw [alive_growR, alive_growM]
  have HB2 := Lib.hid (HB1.out.trans (hb2.mono HB1.out.size))
  clear ho hb2
  go_wp2_with fail
  refine (Inside_any _ 512 c 500 12 _ (by omega)).mono ?_
  rintro e w3 ⟨rfl, rfl⟩
  rw [show insB 512 500 12 = true from by kernel_rfl]
  go_wp2
  go_ret
  exact ⟨rfl, HB2.out⟩
end Go.Proofs.Ytbopbipbbaempaa
