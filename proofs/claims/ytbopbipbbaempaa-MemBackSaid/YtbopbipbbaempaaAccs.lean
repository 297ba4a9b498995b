/-
  MemAccesses: what the statement's function answers.
  Conditions: the slice is within the row's own reach.
-/
import Derived.StillTailTactics
import Derived.BigQuiet
import Derived.Test.YtbopbipbbaempaaGrows
namespace Go.Proofs.Ytbopbipbbaempaa
open Go.RowKit Go.Bk Go.Bk.Mem Go.Shelf

/-- the parts of what Access answers -/
theorem accTuple_parts (op : Int) : ∃ (a b : Int) (c d : Bool), accTuple op = .tuple #[.int .i64 a, .int .i64 b, .bool c, .bool d] := by
  unfold accTuple
  split
  · exact ⟨_, _, _, _, rfl⟩
  · exact ⟨_, _, _, _, rfl⟩

set_option maxRecDepth 100000 in
set_option maxHeartbeats 2000000 in
theorem MemAccesses_true (w : World) (op : Int) (_ : (Lit.int .i64 op).wf = true) (A : Option Addr) (n c : Nat) (zs : List Int) (hz : RowIn .u8 w A n c zs) (hreach : c * Try.prog.bytesOf 5 ≤ reachBytes) (x y : Int)
    (hx : (Lit.int .u64 x).wf = true) (hy : (Lit.int .u64 y).wf = true) :
    Calls Try.prog 6 #[.int .i64 op, .slice A n c, .agg #[.int .u64 x, .int .u64 y]] w fun e w' => e = .returned (.bool true) ∧ Below w.heap.size w w' := by
  obtain ⟨m, hs, hB, hnc, hA⟩ := hz.bytes
  have hn : n ≤ 140737488355328 := reach_len hnc hreach
  obtain ⟨ha1, ha2⟩ := u64_bounds hx
  obtain ⟨addr, rfl⟩ := Int.eq_ofNat_of_zero_le ha1
  obtain ⟨ho1, ho2⟩ := u64_bounds hy
  obtain ⟨en, rfl⟩ := Int.eq_ofNat_of_zero_le ho1
  have hb0 := Lib.hid (show Below w.heap.size w (w.alloc (.cells #[.int .u64 addr, .int .u64 en] 39)) from (Below.refl _ _).alloc (Nat.le_refl _) _)
  clear hs hA hz hreach hx hy
  obtain ⟨a, b, cc, d, HT⟩ := accTuple_parts op
  replace HT := Lib.hid HT
  go_enter Try.func6, Try.ntmps6
  go_wp2_with fail
  refine (Access_any op _).mono ?_
  rintro e w1 ⟨rfl, hb1⟩
  rw [HT.out]
  obtain ⟨hc1, hf1⟩ := bcell hb1
  have hz1 : w.heap.size < w1.heap.size := by have := hb1.size; simp at this; omega
  have HB1 := Lib.hid (hb0.out.trans (hb1.mono (by simp)))
  clear hb1
  go_wp2_with fail
  refine (refAccess_any op _).mono ?_
  rintro e w2 ⟨rfl, rfl⟩
  rw [HT.out]
  have g1 : (a == a) = true := by simp
  have g2 : (b == b) = true := by simp
  have g3 : (cc == cc) = true := by simp
  have g4 : (d == d) = true := by simp
  have hx0 := hc1 w.heap.size 0 (by simp)
  have hx1 := hc1 w.heap.size 1 (by simp)
  simp at hx0 hx1
  have g5 : (insB n addr en == insB n addr en) = true := by simp
  go_wp2_with fail
  go_still_tail 34, (by kernel_rfl)
  still_call ((Inside_any A n c addr en _ hn).mono fun _ _ ⟨h1, h2⟩ => ⟨h1, h2.symm⟩)
  repeat still_step
  still_call ((refInside_any A n c addr en _ hn).mono fun _ _ ⟨h1, h2⟩ => ⟨h1, h2.symm⟩)
  repeat still_step
  refine wpStill_nil ?_
  change wpList _ _ _ _ _ w1.drew
  have HB2 := Lib.hid (show Below w.heap.size w w1.drew from HB1.out.drew)
  generalize w1.drew = w2 at HB2 ⊢
  clear hc1 hf1 hx0 hx1
  go_wp2_with fail
  refine (alive_any _).mono ?_
  rintro e w4 ⟨rfl, hb4⟩
  have HB4 := Lib.hid (HB2.out.trans (hb4.mono HB2.out.size))
  clear hb4
  go_wp2
  go_ret
  exact ⟨rfl, HB4.out⟩
end Go.Proofs.Ytbopbipbbaempaa
