/-
  What leb.S answers, at all arguments.
  Conditions: the slice is within the row's own reach.
-/
import Derived.Test.YtlfbmpbnmakacaaRead2
import Derived.RegionTactic
import Derived.ChangeAlike
namespace Go.Proofs.Ytlfbmpbnmakacaa
open Go.RowKit Go.Bk Go.Bk.Leb

theorem sval_small {N j : Nat} (h1 : 1 ≤ j) (h2 : j ≤ 9) (hN : N < 128 ^ j) : wrap64 (IntKind.u64.wrap (natV N j * 2 ^ (64 - 7 * j))) / 2 ^ (64 - 7 * j) = sval N j := by
  unfold sval natV
  rw [if_pos (by omega), IntKind.wrap_u64]
  unfold wrap64
  obtain rfl | rfl | rfl | rfl | rfl | rfl | rfl | rfl | rfl : j = 1 ∨ j = 2 ∨ j = 3 ∨ j = 4 ∨ j = 5 ∨ j = 6 ∨ j = 7 ∨ j = 8 ∨ j = 9 := by omega
  all_goals
    simp only [Nat.reducePow, Nat.reduceMul, Nat.reduceSub, Int.reducePow] at hN ⊢
    split <;> omega

theorem sval_ten (N : Nat) : wrap64 (natV N 10) = sval N 10 := by
  unfold sval natV
  rw [if_neg (by omega)]

set_option maxHeartbeats 800000 in
theorem S_any (A : Option Addr) (n c : Nat) (l : List Nat) (at_ size : Int) (w : World) (hs : Src w A n (bys l)) (hall : AllB l) (hnc : n ≤ c) (hn : n ≤ 140737488355328) :
    Calls Try.prog 14 #[.slice A n c, .int .i64 at_, .int .i64 size] w fun e w' => e = .returned (readV .i64 mayS sval l at_ size) ∧ Below w.heap.size w w' := by
  have hl : l.length = n := by rw [← hs.1, bys_len]
  have hb0 : Below w.heap.size w (w.alloc (.cells #[.int .i64 0, .int .i64 0, .int .i64 0] 28)) := (Below.refl _ _).alloc (Nat.le_refl _) _
  have hs1 := hs.below hb0 (Nat.le_refl _)
  rcases readV_cases mayS l at_ size with ⟨a, b, ha1, ha2, hv⟩ | ⟨N, j, hj1, hj2, hN, hat1, hat2, hv⟩
  · have HV := Lib.hid hv
    clear hv hl
    have hne : (a == 0) = false := by simp; omega
    go_enter Try.func14, Try.ntmps14
    go_wp2_with fail
    refine (readS_any A n c l at_ size _ hs1 hall hnc hn).mono ?_
    rintro e w1 ⟨rfl, hb⟩
    obtain ⟨hc, hf⟩ := bcell hb
    have hz : w.heap.size < w1.heap.size := by have := hb.size; simp at this; omega
    have hb1 := hb0.trans (hb.mono (by simp))
    clear hb
    rw [HV.out]
    unfold faultV
    go_wp2
    go_region
    go_wp2
    refine bodyPost_ret (v := .tuple #[.int .i64 0, .int .i64 0, faultV a b]) ?_ rfl ⟨by rw [HV.out], ?_⟩
    · simp [results, Try.results14, go_sem, hc, faultV, hz]
    · exact ((((hb1.setCell (by simp) _).setCell (by simp) _).setCell (by simp) _).alloc (by simp; omega) _).drew
  · rw [hl] at hat2
    clear hl
    have HV := Lib.hid hv
    clear hv
    obtain ⟨a, rfl⟩ := Int.eq_ofNat_of_zero_le hat1
    have e1 : ((a : Int) + (j : Int) - (a : Int)) = j := by omega
    by_cases hj : j = 10
    · subst hj
      have e2 : ((a : Int) + ((10 : Nat) : Int)) = (a : Int) + 10 := rfl
      have HE := Lib.hid (sval_ten N)
      have e3 : ((a : Int) + 10 - (a : Int)) = 10 := by omega
      clear e1
      go_enter Try.func14, Try.ntmps14
      go_wp2_with fail
      refine (readS_any A n c l a size _ hs1 hall hnc hn).mono ?_
      rintro e w1 ⟨rfl, hb⟩
      obtain ⟨hc, hf⟩ := bcell hb
      have hz : w.heap.size < w1.heap.size := by have := hb.size; simp at this; omega
      have hb1 := hb0.trans (hb.mono (by simp))
      clear hb
      rw [HV.out]
      unfold faultV
      go_wp2
      go_region
      go_wp2
      refine bodyPost_ret (v := .tuple #[.int .i64 (sval N 10), .int .i64 ((a : Int) + 10), faultV 0 0]) ?_ rfl ⟨?_, ?_⟩
      · rw [← HE.out]
        simp [results, Try.results14, go_sem, hc, faultV, hz]
      · rw [HV.out]
        rfl
      · exact ((((hb1.setCell (by simp) _).setCell (by simp) _).setCell (by simp) _).alloc (by simp; omega) _).drew
    · have hj9 : j ≤ 9 := by omega
      clear hj
      have HE := Lib.hid (sval_small hj1 hj9 hN)
      have hdec : decide (7 * ((a : Int) + (j : Int) - (a : Int)) < 64) = true := by rw [e1]; simp; omega
      go_enter Try.func14, Try.ntmps14
      go_wp2_with fail
      refine (readS_any A n c l a size _ hs1 hall hnc hn).mono ?_
      rintro e w1 ⟨rfl, hb⟩
      obtain ⟨hc, hf⟩ := bcell hb
      have hz : w.heap.size < w1.heap.size := by have := hb.size; simp at this; omega
      have hb1 := hb0.trans (hb.mono (by simp))
      clear hb
      rw [HV.out]
      unfold faultV
      go_wp2
      go_region
      go_wp2
      refine bodyPost_ret (v := .tuple #[.int .i64 (sval N j), .int .i64 ((a : Int) + j), faultV 0 0]) ?_ rfl ⟨?_, ?_⟩
      · rw [← HE.out]
        simp [results, Try.results14, go_sem, hc, faultV, hz]
      · rw [HV.out]
      · exact ((((hb1.setCell (by simp) _).setCell (by simp) _).setCell (by simp) _).alloc (by simp; omega) _).drew

end Go.Proofs.Ytlfbmpbnmakacaa
