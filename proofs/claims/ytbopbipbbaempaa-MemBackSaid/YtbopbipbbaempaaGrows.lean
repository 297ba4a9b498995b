/-
  MemGrows and MemLoads: what the statements' functions answer.
  Conditions: the slice is within the row's own reach.
-/
import Derived.Test.YtbopbipbbaempaaAlive
namespace Go.Proofs.Ytbopbipbbaempaa
open Go.RowKit Go.Bk Go.Bk.Mem Go.Shelf

theorem reach_len {n c : Nat} (h : n ≤ c) (hr : c * Try.prog.bytesOf 5 ≤ reachBytes) : n ≤ 140737488355328 := by
  rw [show Try.prog.bytesOf 5 = 1 by kernel_rfl] at hr
  simp only [reachBytes] at hr
  omega

theorem allB_grow {m : List Nat} (h : AllB m) (most : Int) (pages : Nat) : AllB (growM m most pages) := by
  unfold growM
  split
  · intro x hx
    rcases List.mem_append.1 hx with h1 | h1
    · exact h x h1
    · rw [List.eq_of_mem_replicate h1]; omega
  · exact h

set_option maxRecDepth 100000 in
set_option maxHeartbeats 2000000 in
theorem MemGrows_true (w : World) (A : Option Addr) (n c : Nat) (zs : List Int) (hz : RowIn .u8 w A n c zs) (hreach : c * Try.prog.bytesOf 5 ≤ reachBytes) (most : Int) (hmost : (Lit.int .i64 most).wf = true) (pages : Int) (hpages : (Lit.int .u64 pages).wf = true) :
    Calls Try.prog 4 #[.slice A n c, .int .i64 most, .int .u64 pages] w fun e w' => e = .returned (.bool true) ∧ Below w.heap.size w w' := by
  obtain ⟨m, hs, hB, hnc, hA⟩ := hz.bytes
  have hn : n ≤ 140737488355328 := reach_len hnc hreach
  obtain ⟨hm1, hm2⟩ := i64_bounds hmost
  obtain ⟨hp1, hp2⟩ := u64_bounds hpages
  obtain ⟨pg, rfl⟩ := Int.eq_ofNat_of_zero_le hp1
  have HS := Lib.hid hs
  have HA := Lib.hid hA
  clear hs hA hz hreach hmost hpages
  go_enter Try.func4, Try.ntmps4
  go_wp2_with fail
  refine (Grow_any A n c m most pg _ HS.out HA.out hn hm1 hm2 (by omega)).mono ?_
  rintro e w1 ⟨A1, c1, rfl, ho1, hb1⟩
  have HO1 := Lib.hid ho1
  have HB1 := Lib.hid hb1
  have HS1 := Lib.hid (HS.out.below hb1 (Nat.le_refl _))
  clear ho1 hb1
  generalize HL : (growM m most pg).length = L
  generalize HR : growR n most pg = R
  replace HL := Lib.hid HL
  replace HR := Lib.hid HR
  go_wp2_with fail
  refine (refGrow_any A n c m most pg _ HS1.out HA.out hn hm1 hm2 (by omega)).mono ?_
  rintro e w2 ⟨A2, c2, rfl, ho2, hb2⟩
  rw [HL.out] at ho2
  rw [HL.out, HR.out]
  have HO2 := Lib.hid ho2
  have HB2 := Lib.hid (HB1.out.trans (hb2.mono HB1.out.size))
  have HO1' := Lib.hid (own_below HO1.out hb2 (Nat.le_refl _))
  clear ho2 hb2
  have hRR : ((R : Int) == (R : Int)) = true := by simp
  go_wp2_with fail
  refine (same_any A1 A2 L c1 L c2 _ _ _ (Bk.Src.of_own (by have := HO1'.out; rw [HL.out] at this; exact this)) (allB_grow hB most pg) (Bk.Src.of_own HO2.out) (allB_grow hB most pg)).mono ?_
  rintro e w3 ⟨rfl, rfl⟩
  rw [decide_eq_true rfl]
  go_wp2_with fail
  refine (alive_any _).mono ?_
  rintro e w4 ⟨rfl, hb4⟩
  have HB4 := Lib.hid (HB2.out.trans (hb4.mono HB2.out.size))
  clear hb4
  go_wp2
  go_ret
  exact ⟨rfl, HB4.out⟩

set_option maxRecDepth 100000 in
set_option maxHeartbeats 2000000 in
theorem MemLoads_true (w : World) (A : Option Addr) (n c : Nat) (zs : List Int) (hz : RowIn .u8 w A n c zs) (hreach : c * Try.prog.bytesOf 5 ≤ reachBytes) (op at_ off x : Int) (_ : (Lit.int .i64 op).wf = true) (hat : (Lit.int .u64 at_).wf = true)
    (hoff : (Lit.int .u64 off).wf = true) (_ : (Lit.int .u64 x).wf = true) :
    Calls Try.prog 3 #[.slice A n c, .agg #[.int .i64 op, .int .u64 at_, .int .u64 off, .int .u64 x]] w fun e w' => e = .returned (.bool true) ∧ Below w.heap.size w w' := by
  obtain ⟨m, hs, hB, hnc, hA⟩ := hz.bytes
  have hn : n ≤ 140737488355328 := reach_len hnc hreach
  obtain ⟨ha1, ha2⟩ := u64_bounds hat
  obtain ⟨addr, rfl⟩ := Int.eq_ofNat_of_zero_le ha1
  obtain ⟨ho1, ho2⟩ := u64_bounds hoff
  obtain ⟨of, rfl⟩ := Int.eq_ofNat_of_zero_le ho1
  have hb0 := Lib.hid (show Below w.heap.size w (w.alloc (.cells #[.int .i64 op, .int .u64 addr, .int .u64 of, .int .u64 x] 25)) from (Below.refl _ _).alloc (Nat.le_refl _) _)
  have HS := Lib.hid (hs.below hb0.out (Nat.le_refl _))
  clear hs hA hz hreach hat hoff
  go_enter Try.func3, Try.ntmps3
  go_wp2_with fail
  refine (Load_any A n c addr of op m _ HS.out hB hnc hn (by omega) (by omega)).mono ?_
  rintro e w1 ⟨rfl, hb1⟩
  obtain ⟨hc1, hf1⟩ := bcell hb1
  have hz1 : w.heap.size < w1.heap.size := by have := hb1.size; simp at this; omega
  have HS1 := Lib.hid (HS.out.below hb1 (Nat.le_refl _))
  have HB1 := Lib.hid (hb0.out.trans (hb1.mono (by simp)))
  clear hb1
  generalize HR : loadV m op addr of = R
  replace HR := Lib.hid HR
  obtain ⟨r1, r2⟩ := R
  go_wp2_with fail
  refine (refLoad_any A n c addr of op m _ HS1.out hB hn).mono ?_
  rintro e w2 ⟨rfl, hb2⟩
  rw [HR.out]
  have HB2 := Lib.hid (HB1.out.trans (hb2.mono HB1.out.size))
  clear hb2 hc1 hf1
  have g1 : (r1 == r1) = true := by simp
  have g2 : (r2 == r2) = true := by simp
  go_wp2_with fail
  refine (alive_any _).mono ?_
  rintro e w4 ⟨rfl, hb4⟩
  have HB4 := Lib.hid (HB2.out.trans (hb4.mono HB2.out.size))
  clear hb4
  go_wp2
  go_ret
  exact ⟨rfl, HB4.out⟩
end Go.Proofs.Ytbopbipbbaempaa
