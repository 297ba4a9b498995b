/-
  MemStores: what the statement's function answers.
  Conditions: the slice is within the row's own reach.
-/
import Derived.Test.YtbopbipbbaempaaRStore
namespace Go.Proofs.Ytbopbipbbaempaa
open Go.RowKit Go.Bk Go.Bk.Mem Go.Shelf

theorem storeM_all {m : List Nat} (h : AllB m) (op : Int) (addr off N : Nat) : AllB (storeM m op addr off N) := by
  unfold storeM
  split
  · exact putB_all h _ _ _
  · exact AllB.nil

set_option maxRecDepth 100000 in
set_option maxHeartbeats 2000000 in
theorem MemStores_true (w : World) (A : Option Addr) (n c : Nat) (zs : List Int) (hz : RowIn .u8 w A n c zs) (hreach : c * Try.prog.bytesOf 5 ≤ reachBytes) (op at_ off x : Int) (_ : (Lit.int .i64 op).wf = true) (hat : (Lit.int .u64 at_).wf = true)
    (hoff : (Lit.int .u64 off).wf = true) (hxx : (Lit.int .u64 x).wf = true) :
    Calls Try.prog 7 #[.slice A n c, .agg #[.int .i64 op, .int .u64 at_, .int .u64 off, .int .u64 x]] w fun e w' => e = .returned (.bool true) ∧ Below w.heap.size w w' := by
  obtain ⟨m, hs, hB, hnc, hA⟩ := hz.bytes
  have hn : n ≤ 140737488355328 := reach_len hnc hreach
  obtain ⟨ha1, ha2⟩ := u64_bounds hat
  obtain ⟨addr, rfl⟩ := Int.eq_ofNat_of_zero_le ha1
  obtain ⟨ho1, ho2⟩ := u64_bounds hoff
  obtain ⟨of, rfl⟩ := Int.eq_ofNat_of_zero_le ho1
  obtain ⟨hx1, hx2⟩ := u64_bounds hxx
  obtain ⟨N, rfl⟩ := Int.eq_ofNat_of_zero_le hx1
  have hb0 := Lib.hid (show Below w.heap.size w (w.alloc (.cells #[.int .i64 op, .int .u64 addr, .int .u64 of, .int .u64 N] 25)) from (Below.refl _ _).alloc (Nat.le_refl _) _)
  have HS := Lib.hid (hs.below hb0.out (Nat.le_refl _))
  have HA := Lib.hid hA
  clear hs hA hz hreach hat hoff hxx
  go_enter Try.func7, Try.ntmps7
  go_wp2_with fail
  refine (Store_any A n c addr of N op m _ HS.out HA.out hn (by omega) (by omega) (by omega)).mono ?_
  rintro e w1 ⟨A1, c1, rfl, hw1, hb1⟩
  obtain ⟨hc1, hf1⟩ := bcell hb1
  have hz1 : w.heap.size < w1.heap.size := by have := hb1.size; simp at this; omega
  have HS1 := Lib.hid (HS.out.below hb1 (Nat.le_refl _))
  have HB1 := Lib.hid (hb0.out.trans (hb1.mono (by simp)))
  have HO1 := Lib.hid hw1
  clear hb1 hw1
  generalize HR : storeE n op addr of N = R
  replace HR := Lib.hid HR
  generalize HL : (storeM m op addr of N).length = L
  replace HL := Lib.hid HL
  go_wp2_with fail
  refine (refStore_any A n c addr of N op m _ HS1.out hn).mono ?_
  rintro e w2 ⟨A2, c2, rfl, hw2, hb2⟩
  rw [HR.out, HL.out]
  rw [HL.out] at hw2
  have HB2 := Lib.hid (HB1.out.trans (hb2.mono HB1.out.size))
  have HO2 := Lib.hid hw2
  have HO1' := Lib.hid (own_below HO1.out hb2 (Nat.le_refl _))
  clear hb2 hc1 hf1 hw2
  have g2 : (R == R) = true := by simp
  go_wp2_with fail
  refine (same_any A1 A2 L c1 L c2 _ _ _ (Bk.Src.of_own (by have := HO1'.out; rw [HL.out] at this; exact this)) (storeM_all hB op addr of N) (Bk.Src.of_own HO2.out) (storeM_all hB op addr of N)).mono ?_
  rintro e w3 ⟨rfl, rfl⟩
  rw [decide_eq_true rfl]
  go_wp2_with fail
  refine (alive_any _).mono ?_
  rintro e w4 ⟨rfl, hb4⟩
  have HB4 := Lib.hid (HB2.out.trans (hb4.mono HB2.out.size))
  clear hb4
  go_wp2
  go_ret
  exact ⟨rfl, HB4.out⟩
end Go.Proofs.Ytbopbipbbaempaa
