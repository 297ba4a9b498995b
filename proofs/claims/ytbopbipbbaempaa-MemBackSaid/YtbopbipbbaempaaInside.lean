/-
  What mem.Inside and its reference answer, and where an access begins (mem.place).
  Conditions: the slice is within the row's own reach.
-/
import Derived.Test.YtbopbipbbaempaaAcc
namespace Go.Proofs.Ytbopbipbbaempaa
open Go.RowKit Go.Bk Go.Bk.Mem

/-- addr and end lie together inside n bytes -/
def insB (n addr en : Nat) : Bool := decide (addr ≤ 1099511627776) && (decide (en ≤ 1099511627776) && decide (addr + en ≤ n))

set_option maxHeartbeats 400000 in
theorem Inside_any (A : Option Addr) (n c addr en : Nat) (w : World) (hn : n ≤ 140737488355328) :
    Calls Try.prog 16 #[.slice A n c, .int .u64 addr, .int .u64 en] w fun e w' => e = .returned (.bool (insB n addr en)) ∧ w = w' := by
  by_cases h1 : addr ≤ 1099511627776
  · have g1 : decide ((addr : Int) ≤ 1099511627776) = true := by simp; omega
    by_cases h2 : en ≤ 1099511627776
    · have g2 : decide ((en : Int) ≤ 1099511627776) = true := by simp; omega
      have HE := Lib.hid (show insB n addr en = decide (addr + en ≤ n) by simp [insB, h1, h2])
      go_enter Try.func16, Try.ntmps16
      go_wp2
      go_ret
      rw [HE.out]
      refine ⟨?_, rfl⟩
      show Ending.returned (.bool (decide ((addr : Int) + (en : Int) ≤ (n : Int)))) = _
      congr 2
      rw [Bool.eq_iff_iff]
      simp
      omega
    · have g2 : decide ((en : Int) ≤ 1099511627776) = false := by simp; omega
      have HE := Lib.hid (show insB n addr en = false by simp [insB, h1, h2])
      clear h1 h2
      go_enter Try.func16, Try.ntmps16
      go_wp2
      go_ret
      rw [HE.out]
      exact ⟨rfl, rfl⟩
  · have g1 : decide ((addr : Int) ≤ 1099511627776) = false := by simp; omega
    have HE := Lib.hid (show insB n addr en = false by simp [insB, h1])
    clear h1
    go_enter Try.func16, Try.ntmps16
    go_wp2
    go_ret
    rw [HE.out]
    exact ⟨rfl, rfl⟩
set_option maxHeartbeats 400000 in
theorem refInside_any (A : Option Addr) (n c addr en : Nat) (w : World) (hn : n ≤ 140737488355328) :
    Calls Try.prog 19 #[.slice A n c, .int .u64 addr, .int .u64 en] w fun e w' => e = .returned (.bool (insB n addr en)) ∧ w = w' := by
  by_cases h1 : addr ≤ 1099511627776
  · have g1 : decide ((addr : Int) ≤ 1099511627776) = true := by simp; omega
    by_cases h2 : en ≤ 1099511627776
    · have g2 : decide ((en : Int) ≤ 1099511627776) = true := by simp; omega
      have HE := Lib.hid (show insB n addr en = decide (addr + en ≤ n) by simp [insB, h1, h2])
      go_enter Try.func19, Try.ntmps19
      go_wp2
      go_ret
      rw [HE.out]
      refine ⟨?_, rfl⟩
      show Ending.returned (.bool (decide ((addr : Int) + (en : Int) ≤ (n : Int)))) = _
      congr 2
      rw [Bool.eq_iff_iff]
      simp
      omega
    · have g2 : decide ((en : Int) ≤ 1099511627776) = false := by simp; omega
      have HE := Lib.hid (show insB n addr en = false by simp [insB, h1, h2])
      clear h1 h2
      go_enter Try.func19, Try.ntmps19
      go_wp2
      go_ret
      rw [HE.out]
      exact ⟨rfl, rfl⟩
  · have g1 : decide ((addr : Int) ≤ 1099511627776) = false := by simp; omega
    have HE := Lib.hid (show insB n addr en = false by simp [insB, h1])
    clear h1
    go_enter Try.func19, Try.ntmps19
    go_wp2
    go_ret
    rw [HE.out]
    exact ⟨rfl, rfl⟩

/-- where an access begins, or why it may not -/
def placeV (n : Nat) (wd : Int) (addr off : Nat) : Int × Int :=
  if 4294967295 < addr ∨ 4294967295 < off then (0, 1) else if insB n (addr + off) wd.toNat then ((addr + off : Nat), 0) else (0, 35)

set_option maxHeartbeats 800000 in
theorem place_any (A : Option Addr) (n c addr off : Nat) (k wd : Int) (st sg : Bool) (w : World) (hn : n ≤ 140737488355328) (hw0 : 0 ≤ wd) (hw8 : wd ≤ 8) (ha : addr < 18446744073709551616) (ho : off < 18446744073709551616) :
    Calls Try.prog 23 #[.slice A n c, .agg #[.int .i64 k, .int .i64 wd, .bool st, .bool sg], .int .u64 addr, .int .u64 off] w fun e w' =>
      e = .returned (.tuple #[.int .i64 (placeV n wd addr off).1, .int .i64 (placeV n wd addr off).2]) ∧ Below w.heap.size w w' := by
  have hb : Below w.heap.size w (w.alloc (.cells #[.int .i64 k, .int .i64 wd, .bool st, .bool sg] 50)) := (Below.refl _ _).alloc (Nat.le_refl _) _
  obtain ⟨wn, rfl⟩ := Int.eq_ofNat_of_zero_le hw0
  by_cases h1 : 4294967295 < addr
  · have g1 : decide ((4294967295 : Int) < (addr : Int)) = true := by simp; omega
    have HE := Lib.hid (show placeV n wn addr off = (0, 1) by simp [placeV, h1])
    clear h1
    go_enter Try.func23, Try.ntmps23
    go_wp2
    go_ret2
    rw [HE.out]
    exact ⟨rfl, hb⟩
  · have g1 : decide ((4294967295 : Int) < (addr : Int)) = false := by simp; omega
    by_cases h2 : 4294967295 < off
    · have g2 : decide ((4294967295 : Int) < (off : Int)) = true := by simp; omega
      have HE := Lib.hid (show placeV n wn addr off = (0, 1) by simp [placeV, h2])
      clear h2
      go_enter Try.func23, Try.ntmps23
      go_wp2
      go_ret2
      rw [HE.out]
      exact ⟨rfl, hb⟩
    · have g2 : decide ((4294967295 : Int) < (off : Int)) = false := by simp; omega
      cases h3 : insB n (addr + off) wn with
      | true =>
        have HE := Lib.hid (show placeV n wn addr off = (((addr + off : Nat) : Int), 0) by simp [placeV, h1, h2, h3])
        have H3 := Lib.hid h3
        have hle : addr + off ≤ n := by simp [insB] at h3; omega
        clear h3
        go_enter Try.func23, Try.ntmps23
        go_wp2_with fail
        rw [show ((addr : Int) + (off : Int)) = ((addr + off : Nat) : Int) from by omega]
        refine (Inside_any A n c (addr + off) wn _ hn).mono ?_
        rintro e w1 ⟨rfl, rfl⟩
        rw [H3.out]
        go_wp2_with fail
        go_ret2
        rw [HE.out]
        refine ⟨?_, hb⟩
        simp
      | false =>
        have HE := Lib.hid (show placeV n wn addr off = (0, 35) by simp [placeV, h1, h2, h3])
        have H3 := Lib.hid h3
        clear h3
        go_enter Try.func23, Try.ntmps23
        go_wp2_with fail
        rw [show ((addr : Int) + (off : Int)) = ((addr + off : Nat) : Int) from by omega]
        refine (Inside_any A n c (addr + off) wn _ hn).mono ?_
        rintro e w1 ⟨rfl, rfl⟩
        rw [H3.out]
        go_wp2_with fail
        go_ret2
        rw [HE.out]
        exact ⟨rfl, hb⟩

end Go.Proofs.Ytbopbipbbaempaa
