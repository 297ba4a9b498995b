/-
  The statement LebReads: any bytes are read, from any place on, as the document says, or refused at the first byte that is wrong: the law answers true at every input.
  Conditions: none but the row's own reach.
-/
import Derived.Test.YtlfbmpbnmakacaaRefS
namespace Go.Proofs.Ytlfbmpbnmakacaa
open Go.RowKit Go.Bk Go.Bk.Leb

set_option maxHeartbeats 800000 in
theorem refU_arg (A : Option Addr) (n c : Nat) (at_ size : Int) (w : World) (h : size ≠ 32 ∧ size ≠ 64 ∨ at_ < 0 ∨ (n : Int) < at_) :
    Calls Try.prog 13 #[.slice A n c, .int .i64 at_, .int .i64 size] w fun e w' =>
      e = .returned (.tuple #[.int .u64 0, .int .i64 0, faultV 1 at_]) ∧ Below w.heap.size w w' := by
  by_cases hs : size ≠ 32 ∧ size ≠ 64
  · obtain ⟨h1, h2⟩ := hs
    have HM := Lib.hid (most_any size (w.alloc (.cells #[.int .i64 0, .int .i64 0, .int .i64 0] 28)))
    rw [if_neg h1, if_neg h2] at HM
    clear h h1 h2
    go_enter Try.func13, Try.ntmps13
    go_wp2_with fail
    refine HM.out.mono ?_
    rintro e w1 ⟨rfl, rfl⟩
    go_wp2_with fail
    exact bodyPost_ret (v := .tuple #[.int .u64 0, .int .i64 0, faultV 1 at_]) (by simp [results, Try.results13, go_sem, faultV]) rfl ⟨rfl, (Below.refl _ _).alloc (Nat.le_refl _) _⟩
  · have hs' : size = 32 ∨ size = 64 := by omega
    have h' : at_ < 0 ∨ (n : Int) < at_ := by omega
    clear h hs
    by_cases h0 : at_ < 0
    · have g : decide (at_ < 0) = true := by simp [h0]
      rcases hs' with rfl | rfl
      all_goals
        go_enter Try.func13, Try.ntmps13
        go_wp2_with fail
        refine (most_any _ _).mono ?_
        rintro e w1 ⟨rfl, rfl⟩
        simp only [if_true, Int.reduceEq, if_false]
        go_wp2_with fail
        exact bodyPost_ret (v := .tuple #[.int .u64 0, .int .i64 0, faultV 1 at_]) (by simp [results, Try.results13, go_sem, faultV]) rfl ⟨rfl, (Below.refl _ _).alloc (Nat.le_refl _) _⟩
    · have g : decide (at_ < 0) = false := by simp; omega
      have h1 : (n : Int) < at_ := by omega
      have g2 : decide ((n : Int) < at_) = true := by simp [h1]
      rcases hs' with rfl | rfl
      all_goals
        go_enter Try.func13, Try.ntmps13
        go_wp2_with fail
        refine (most_any _ _).mono ?_
        rintro e w1 ⟨rfl, rfl⟩
        simp only [if_true, Int.reduceEq, if_false]
        go_wp2_with fail
        exact bodyPost_ret (v := .tuple #[.int .u64 0, .int .i64 0, faultV 1 at_]) (by simp [results, Try.results13, go_sem, faultV]) rfl ⟨rfl, (Below.refl _ _).alloc (Nat.le_refl _) _⟩

theorem refU_any (A : Option Addr) (n c : Nat) (l : List Nat) (at_ size : Int) (w : World) (hs : Src w A n (bys l)) (hall : AllB l) (hn : n ≤ 140737488355328) :
    Calls Try.prog 13 #[.slice A n c, .int .i64 at_, .int .i64 size] w fun e w' => e = .returned (readV .u64 mayU natV l at_ size) ∧ Below w.heap.size w w' := by
  have hl : l.length = n := by rw [← hs.1, bys_len]
  by_cases h : size ≠ 32 ∧ size ≠ 64 ∨ at_ < 0 ∨ (n : Int) < at_
  · unfold readV
    rw [hl, if_pos h]
    exact refU_arg A n c at_ size w h
  · have hsz : size = 32 ∨ size = 64 := by omega
    obtain ⟨a, rfl⟩ := Int.eq_ofNat_of_zero_le (show 0 ≤ at_ from by omega)
    have hd : AllB (l.drop a) := fun x hx => hall x (List.mem_of_mem_drop hx)
    rcases hsz with rfl | rfl
    · obtain ⟨init, tail, h1, h2, h3, h4⟩ := goes_split 5 (l.drop a) hd
      exact refU_32 A n c a l init tail init.length w hs hall hn (by omega) h1 h2 rfl h3 h4
    · obtain ⟨init, tail, h1, h2, h3, h4⟩ := goes_split 10 (l.drop a) hd
      exact refU_64 A n c a l init tail init.length w hs hall hn (by omega) h1 h2 rfl h3 h4

set_option maxHeartbeats 800000 in
theorem refS_arg (A : Option Addr) (n c : Nat) (at_ size : Int) (w : World) (h : size ≠ 32 ∧ size ≠ 64 ∨ at_ < 0 ∨ (n : Int) < at_) :
    Calls Try.prog 15 #[.slice A n c, .int .i64 at_, .int .i64 size] w fun e w' =>
      e = .returned (.tuple #[.int .i64 0, .int .i64 0, faultV 1 at_]) ∧ Below w.heap.size w w' := by
  by_cases hs : size ≠ 32 ∧ size ≠ 64
  · obtain ⟨h1, h2⟩ := hs
    have HM := Lib.hid (most_any size (w.alloc (.cells #[.int .i64 0, .int .i64 0, .int .i64 0] 28)))
    rw [if_neg h1, if_neg h2] at HM
    clear h h1 h2
    go_enter Try.func15, Try.ntmps15
    go_wp2_with fail
    refine HM.out.mono ?_
    rintro e w1 ⟨rfl, rfl⟩
    go_wp2_with fail
    exact bodyPost_ret (v := .tuple #[.int .i64 0, .int .i64 0, faultV 1 at_]) (by simp [results, Try.results15, go_sem, faultV]) rfl ⟨rfl, (Below.refl _ _).alloc (Nat.le_refl _) _⟩
  · have hs' : size = 32 ∨ size = 64 := by omega
    have h' : at_ < 0 ∨ (n : Int) < at_ := by omega
    clear h hs
    by_cases h0 : at_ < 0
    · have g : decide (at_ < 0) = true := by simp [h0]
      rcases hs' with rfl | rfl
      all_goals
        go_enter Try.func15, Try.ntmps15
        go_wp2_with fail
        refine (most_any _ _).mono ?_
        rintro e w1 ⟨rfl, rfl⟩
        simp only [if_true, Int.reduceEq, if_false]
        go_wp2_with fail
        exact bodyPost_ret (v := .tuple #[.int .i64 0, .int .i64 0, faultV 1 at_]) (by simp [results, Try.results15, go_sem, faultV]) rfl ⟨rfl, (Below.refl _ _).alloc (Nat.le_refl _) _⟩
    · have g : decide (at_ < 0) = false := by simp; omega
      have h1 : (n : Int) < at_ := by omega
      have g2 : decide ((n : Int) < at_) = true := by simp [h1]
      rcases hs' with rfl | rfl
      all_goals
        go_enter Try.func15, Try.ntmps15
        go_wp2_with fail
        refine (most_any _ _).mono ?_
        rintro e w1 ⟨rfl, rfl⟩
        simp only [if_true, Int.reduceEq, if_false]
        go_wp2_with fail
        exact bodyPost_ret (v := .tuple #[.int .i64 0, .int .i64 0, faultV 1 at_]) (by simp [results, Try.results15, go_sem, faultV]) rfl ⟨rfl, (Below.refl _ _).alloc (Nat.le_refl _) _⟩

theorem refS_any (A : Option Addr) (n c : Nat) (l : List Nat) (at_ size : Int) (w : World) (hs : Src w A n (bys l)) (hall : AllB l) (hn : n ≤ 140737488355328) :
    Calls Try.prog 15 #[.slice A n c, .int .i64 at_, .int .i64 size] w fun e w' => e = .returned (readV .i64 mayS sval l at_ size) ∧ Below w.heap.size w w' := by
  have hl : l.length = n := by rw [← hs.1, bys_len]
  by_cases h : size ≠ 32 ∧ size ≠ 64 ∨ at_ < 0 ∨ (n : Int) < at_
  · unfold readV
    rw [hl, if_pos h]
    exact refS_arg A n c at_ size w h
  · have hsz : size = 32 ∨ size = 64 := by omega
    obtain ⟨a, rfl⟩ := Int.eq_ofNat_of_zero_le (show 0 ≤ at_ from by omega)
    have hd : AllB (l.drop a) := fun x hx => hall x (List.mem_of_mem_drop hx)
    rcases hsz with rfl | rfl
    · obtain ⟨init, tail, h1, h2, h3, h4⟩ := goes_split 5 (l.drop a) hd
      exact refS_32 A n c a l init tail init.length w hs hall hn (by omega) h1 h2 rfl h3 h4
    · obtain ⟨init, tail, h1, h2, h3, h4⟩ := goes_split 10 (l.drop a) hd
      exact refS_64 A n c a l init tail init.length w hs hall hn (by omega) h1 h2 rfl h3 h4

theorem readV_shape (k : IntKind) (may : Nat → Nat → Bool) (val : Nat → Nat → Int) (l : List Nat) (at_ size : Int) :
    ∃ x y a b : Int, readV k may val l at_ size = .tuple #[.int k x, .int .i64 y, .agg #[.int .i64 a, .int .i64 b, .int .i64 0]] := by
  rcases readV_cases may l at_ size with ⟨a, b, _, _, h⟩ | ⟨N, j, _, _, _, _, _, h⟩
  · exact ⟨_, _, _, _, h _ _⟩
  · exact ⟨_, _, _, _, h _ _⟩

set_option maxRecDepth 100000 in
set_option maxHeartbeats 2000000 in
theorem reads_any (A : Option Addr) (n c : Nat) (l : List Nat) (at_ size : Int) (w : World) (hs : Src w A n (bys l)) (hall : AllB l) (hnc : n ≤ c) (hn : n ≤ 140737488355328) :
    Calls Try.prog 4 #[.slice A n c, .int .i64 at_, .int .i64 size] w fun e w' => e = .returned (.bool true) ∧ Below w.heap.size w w' := by
  obtain ⟨x, y, a, b, h1⟩ := readV_shape .u64 mayU natV l at_ size
  obtain ⟨x', y', a', b', h2⟩ := readV_shape .i64 mayS sval l at_ size
  have HV1 := Lib.hid h1
  have HV2 := Lib.hid h2
  have HS := Lib.hid hs
  clear h1 h2 hs
  go_enter Try.func4, Try.ntmps4
  go_wp2_with fail
  refine (U_any A n c l at_ size _ HS.out hall hnc hn).mono ?_
  rintro e w1 ⟨rfl, hb⟩
  rw [HV1.out]
  have HS1 := Lib.hid (HS.out.below hb (Nat.le_refl _))
  have HW1 := Lib.hid hb
  clear hb HS
  go_wp2_with fail
  have HF := Lib.hid (FB.new w1 (.int .i64 a) (.int .i64 b) (.int .i64 0))
  have HS2 := Lib.hid (HS1.out.below ((Below.refl _ _).alloc (Nat.le_refl _) (.cells #[.int .i64 a, .int .i64 b, .int .i64 0] 28)) (Nat.le_refl _))
  have HW2 := Lib.hid (HW1.out.alloc HW1.out.size (.cells #[.int .i64 a, .int .i64 b, .int .i64 0] 28))
  clear HS1 HW1
  refine (refU_any A n c l at_ size _ HS2.out hall hn).mono ?_
  rintro e w2 ⟨rfl, hb⟩
  rw [HV1.out]
  have HF1 := Lib.hid (HF.out.below hb (Nat.le_refl _))
  have HS1 := Lib.hid (HS2.out.below hb (Nat.le_refl _))
  have HW1 := Lib.hid (HW2.out.trans (hb.mono HW2.out.size))
  clear hb HF HS2 HW2
  go_wp2_with fail
  have HG := Lib.hid (FB.new w2 (.int .i64 a) (.int .i64 b) (.int .i64 0))
  have HF := Lib.hid (HF1.out.alloc (.cells #[.int .i64 a, .int .i64 b, .int .i64 0] 28))
  have HS2 := Lib.hid (HS1.out.below ((Below.refl _ _).alloc (Nat.le_refl _) (.cells #[.int .i64 a, .int .i64 b, .int .i64 0] 28)) (Nat.le_refl _))
  have HW2 := Lib.hid (HW1.out.alloc HW1.out.size (.cells #[.int .i64 a, .int .i64 b, .int .i64 0] 28))
  clear HS1 HW1 HF1
  refine (S_any A n c l at_ size _ HS2.out hall hnc hn).mono ?_
  rintro e w3 ⟨rfl, hb⟩
  rw [HV2.out]
  have HF1 := Lib.hid (HF.out.below hb (Nat.le_refl _))
  have HG1 := Lib.hid (HG.out.below hb (Nat.le_refl _))
  have HS1 := Lib.hid (HS2.out.below hb (Nat.le_refl _))
  have HW1 := Lib.hid (HW2.out.trans (hb.mono HW2.out.size))
  clear hb HF HG HS2 HW2
  go_wp2_with fail
  have HH := Lib.hid (FB.new w3 (.int .i64 a') (.int .i64 b') (.int .i64 0))
  have HF := Lib.hid (HF1.out.alloc (.cells #[.int .i64 a', .int .i64 b', .int .i64 0] 28))
  have HG := Lib.hid (HG1.out.alloc (.cells #[.int .i64 a', .int .i64 b', .int .i64 0] 28))
  have HS2 := Lib.hid (HS1.out.below ((Below.refl _ _).alloc (Nat.le_refl _) (.cells #[.int .i64 a', .int .i64 b', .int .i64 0] 28)) (Nat.le_refl _))
  have HW2 := Lib.hid (HW1.out.alloc HW1.out.size (.cells #[.int .i64 a', .int .i64 b', .int .i64 0] 28))
  clear HS1 HW1 HF1 HG1
  refine (refS_any A n c l at_ size _ HS2.out hall hn).mono ?_
  rintro e w4 ⟨rfl, hb⟩
  rw [HV2.out]
  obtain ⟨f1, f2, f3⟩ := (HF.out.below hb (Nat.le_refl _)).cells
  obtain ⟨g1, g2, g3⟩ := (HG.out.below hb (Nat.le_refl _)).cells
  obtain ⟨k1, k2, k3⟩ := (HH.out.below hb (Nat.le_refl _)).cells
  have l1 := (HF.out.below hb (Nat.le_refl _)).lt
  have l2 := (HG.out.below hb (Nat.le_refl _)).lt
  have l3 := (HH.out.below hb (Nat.le_refl _)).lt
  have HW1 := Lib.hid (HW2.out.trans (hb.mono HW2.out.size))
  clear hb HF HG HH HS2 HW2
  have q1 : (x == x) = true := by simp
  have q2 : (y == y) = true := by simp
  have q3 : (x' == x') = true := by simp
  have q4 : (y' == y') = true := by simp
  have q5 : (a == a) = true := by simp
  have q6 : (b == b) = true := by simp
  have q7 : (a' == a') = true := by simp
  have q8 : (b' == b') = true := by simp
  go_wp2_with fail
  refine (alive_any _).mono ?_
  rintro e w7 ⟨rfl, hb7⟩
  have HB7 := Lib.hid ((HW1.out.alloc HW1.out.size _).trans (hb7.mono (by have := HW1.out.size; simp; omega)))
  clear hb7
  go_wp2_with fail
  go_ret
  exact ⟨rfl, HB7.out⟩

theorem reads_walk (w : World) (A : Option Addr) (na ca : Nat) (za : List Int) (ra : RowIn .u8 w A na ca za) (hca : ca * Try.prog.bytesOf 5 ≤ reachBytes) (a1 : Int) (_ : (Lit.int .i64 a1).wf = true) (a2 : Int) (_ : (Lit.int .i64 a2).wf = true) :
    Calls Try.prog 4 #[.slice A na ca, .int .i64 a1, .int .i64 a2] w fun e w' => e = .returned (.bool true) ∧ Below w.heap.size w w' := by
  obtain ⟨a, sa, aa, la, ha0⟩ := ra.bytes
  rw [show Try.prog.bytesOf 5 = 1 by kernel_rfl] at hca
  simp only [reachBytes] at hca
  exact reads_any A na ca a a1 a2 w sa aa la (by omega)

end Go.Proofs.Ytlfbmpbnmakacaa
