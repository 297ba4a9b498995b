/-
  What leb.U and leb.S answer, at all arguments.
  Conditions: the slice is within the row's own reach.
-/
import Derived.Test.YtlfbmpbnmakacaaRead
namespace Go.Proofs.Ytlfbmpbnmakacaa
open Go.RowKit Go.Bk Go.Bk.Leb

/-- nothing is left to be read -/
theorem read_none (f : Nat) (A : Option Addr) (n c : Nat) (l : List Nat) (at_ : Nat) (size : Int) (hsz : size = 32 ∨ size = 64) (w : World) (hl : l.length = n) (hnc : n ≤ c) (hn : n ≤ 140737488355328) (hat : at_ = n) (may : Nat → Bool) (m : Nat) :
    Calls Try.prog 23 #[.slice A n c, .int .i64 at_, .int .i64 size, .func (.func f) #[] #[]] w fun e w' =>
      e = .returned (rdV .u64 natV at_ n (rd may m (l.drop at_) 0 0)) ∧ Below w.heap.size w w' := by
  subst hat
  have hv : rdV .u64 natV at_ at_ (rd may m (l.drop at_) 0 0) = .tuple #[.int .u64 0, .int .i64 0, faultV 4 at_] := by
    rw [List.drop_of_length_le (by omega), rd_nil]
    rfl
  rw [hv]
  clear hv hl
  have hat0 : decide ((at_ : Int) < 0) = false := by simp
  have hat1 : decide ((at_ : Int) < (at_ : Int)) = false := by simp
  have hz : at_ - at_ = 0 := by omega
  rcases hsz with rfl | rfl
  all_goals
    go_enter Try.func23, Try.ntmps23
    go_wp2_with fail
    all_goals
      refine wp_loop_rounds 1 ?_
      rw [rounds_succ]
      go_wp2_with fail
      exact bodyPost_ret (v := .tuple #[.int .u64 0, .int .i64 0, faultV 4 at_]) (by simp [results, Try.results23, go_sem, faultV]) rfl ⟨rfl, (Below.refl _ _).alloc (Nat.le_refl _) _⟩

/-- what a reading of a number answers, at all arguments -/
def readV (k : IntKind) (may : Nat → Nat → Bool) (val : Nat → Nat → Int) (l : List Nat) (at_ size : Int) : Value :=
  if size ≠ 32 ∧ size ≠ 64 ∨ at_ < 0 ∨ (l.length : Int) < at_ then .tuple #[.int k 0, .int .i64 0, faultV 1 at_]
  else rdV k val at_.toNat l.length (rd (may size.toNat) (most size.toNat) (l.drop at_.toNat) 0 0)

theorem readU_any (A : Option Addr) (n c : Nat) (l : List Nat) (at_ size : Int) (w : World) (hs : Src w A n (bys l)) (hall : AllB l) (hnc : n ≤ c) (hn : n ≤ 140737488355328) :
    Calls Try.prog 23 #[.slice A n c, .int .i64 at_, .int .i64 size, .func (.func 24) #[] #[]] w fun e w' => e = .returned (readV .u64 mayU natV l at_ size) ∧ Below w.heap.size w w' := by
  have hl : l.length = n := by rw [← hs.1, bys_len]
  unfold readV
  rw [hl]
  by_cases h : size ≠ 32 ∧ size ≠ 64 ∨ at_ < 0 ∨ (n : Int) < at_
  · rw [if_pos h]
    exact read_arg 24 A n c at_ size w h
  · rw [if_neg h]
    have hsz : size = 32 ∨ size = 64 := by omega
    obtain ⟨a, rfl⟩ := Int.eq_ofNat_of_zero_le (show 0 ≤ at_ from by omega)
    rw [Int.toNat_natCast]
    by_cases ha : a = n
    · exact read_none 24 A n c l a size hsz w hl hnc hn ha _ _
    · obtain ⟨b, o, rfl, _⟩ := hs.addr (show 0 < n from by omega)
      rcases hsz with rfl | rfl
      · exact read32U b o n c l a w hs hall hnc hn (by omega)
      · exact read64U b o n c l a w hs hall hnc hn (by omega)

theorem readS_any (A : Option Addr) (n c : Nat) (l : List Nat) (at_ size : Int) (w : World) (hs : Src w A n (bys l)) (hall : AllB l) (hnc : n ≤ c) (hn : n ≤ 140737488355328) :
    Calls Try.prog 23 #[.slice A n c, .int .i64 at_, .int .i64 size, .func (.func 27) #[] #[]] w fun e w' => e = .returned (readV .u64 mayS natV l at_ size) ∧ Below w.heap.size w w' := by
  have hl : l.length = n := by rw [← hs.1, bys_len]
  unfold readV
  rw [hl]
  by_cases h : size ≠ 32 ∧ size ≠ 64 ∨ at_ < 0 ∨ (n : Int) < at_
  · rw [if_pos h]
    exact read_arg 27 A n c at_ size w h
  · rw [if_neg h]
    have hsz : size = 32 ∨ size = 64 := by omega
    obtain ⟨a, rfl⟩ := Int.eq_ofNat_of_zero_le (show 0 ≤ at_ from by omega)
    rw [Int.toNat_natCast]
    by_cases ha : a = n
    · exact read_none 27 A n c l a size hsz w hl hnc hn ha _ _
    · obtain ⟨b, o, rfl, _⟩ := hs.addr (show 0 < n from by omega)
      rcases hsz with rfl | rfl
      · exact read32S b o n c l a w hs hall hnc hn (by omega)
      · exact read64S b o n c l a w hs hall hnc hn (by omega)

theorem bcell {W w1 : World} (hb : Below W.heap.size W w1) : (∀ b o, b < W.heap.size → w1.cell? ⟨b, o, none⟩ = W.cell? ⟨b, o, none⟩) ∧ (∀ b o, b < W.heap.size → w1.frozen? ⟨b, o, none⟩ = W.frozen? ⟨b, o, none⟩) :=
  ⟨fun b _ h => hb.cell (p := ⟨b, _, none⟩) h, fun b _ h => hb.frozen (p := ⟨b, _, none⟩) h⟩

theorem rd_cases (may : Nat → Bool) (m : Nat) : ∀ (l : List Nat) (i q : Nat), i ≤ m → q < 128 ^ i →
    (∃ N j, rd may m l i q = (0, N, j) ∧ i < j ∧ j ≤ m + 1 ∧ N < 128 ^ j) ∨ (∃ j, rd may m l i q = (3, 0, j) ∧ j ≤ m) ∨ rd may m l i q = (4, 0, 0)
  | [], _, _, _, _ => .inr (.inr rfl)
  | x :: r, i, q, hi, hq => by
    have hstep : x < 128 → q + x * 128 ^ i < 128 ^ (i + 1) := fun hx => by
      have h2 : x * 128 ^ i ≤ 127 * 128 ^ i := Nat.mul_le_mul_right _ (by omega)
      rw [Nat.pow_succ]
      omega
    rcases Nat.lt_or_ge i m with him | him
    · by_cases hx : x < 128
      · exact .inl ⟨_, _, rd_end him hx, by omega, by omega, hstep hx⟩
      · rw [rd_more him hx]
        rcases rd_cases may m r (i + 1) _ (by omega) (acc_next hq) with ⟨N, j, h1, h2, h3, h4⟩ | h | h
        · exact .inl ⟨N, j, h1, by omega, h3, h4⟩
        · exact .inr (.inl h)
        · exact .inr (.inr h)
    · obtain rfl : i = m := by omega
      by_cases hx : x < 128 ∧ may x = true
      · exact .inl ⟨_, _, rd_last_ok hx.1 hx.2, by omega, by omega, hstep hx.1⟩
      · exact .inr (.inl ⟨_, rd_last_no hx, by omega⟩)

/-- a fault, or a number -/
theorem readV_cases (may : Nat → Nat → Bool) (l : List Nat) (at_ size : Int) :
    (∃ a b : Int, 1 ≤ a ∧ a ≤ 4 ∧ ∀ k val, readV k may val l at_ size = .tuple #[.int k 0, .int .i64 0, faultV a b]) ∨
    (∃ N j : Nat, 1 ≤ j ∧ j ≤ 10 ∧ N < 128 ^ j ∧ 0 ≤ at_ ∧ at_ ≤ l.length ∧ ∀ k val, readV k may val l at_ size = .tuple #[.int k (val N j), .int .i64 (at_ + j), faultV 0 0]) := by
  unfold readV
  by_cases h : size ≠ 32 ∧ size ≠ 64 ∨ at_ < 0 ∨ (l.length : Int) < at_
  · refine .inl ⟨1, at_, by omega, by omega, fun k val => ?_⟩
    rw [if_pos h]
  · have hm : most size.toNat ≤ 9 := by
      unfold most
      split <;> omega
    rcases rd_cases (may size.toNat) (most size.toNat) (l.drop at_.toNat) 0 0 (by omega) (by simp) with ⟨N, j, h1, h2, h3, h4⟩ | ⟨j, h1, h2⟩ | h1
    · refine .inr ⟨N, j, by omega, by omega, h4, by omega, by omega, fun k val => ?_⟩
      rw [if_neg h, h1]
      simp only [rdV, if_true]
      rw [show ((at_.toNat + j : Nat) : Int) = at_ + j from by omega]
    · refine .inl ⟨3, ((at_.toNat + j : Nat) : Int), by omega, by omega, fun k val => ?_⟩
      rw [if_neg h, h1]
      rfl
    · refine .inl ⟨4, l.length, by omega, by omega, fun k val => ?_⟩
      rw [if_neg h, h1]
      rfl

/-- the number with its sign -/
def sval (N j : Nat) : Int := if 7 * j < 64 then (if 2 * N < 128 ^ j then N else (N : Int) - 128 ^ j) else wrap64 ((N % 18446744073709551616 : Nat) : Int)

set_option maxHeartbeats 400000 in
theorem U_any (A : Option Addr) (n c : Nat) (l : List Nat) (at_ size : Int) (w : World) (hs : Src w A n (bys l)) (hall : AllB l) (hnc : n ≤ c) (hn : n ≤ 140737488355328) :
    Calls Try.prog 11 #[.slice A n c, .int .i64 at_, .int .i64 size] w fun e w' => e = .returned (readV .u64 mayU natV l at_ size) ∧ Below w.heap.size w w' := by
  have hb0 : Below w.heap.size w (w.alloc (.cells #[.int .i64 0, .int .i64 0, .int .i64 0] 28)) := (Below.refl _ _).alloc (Nat.le_refl _) _
  have hs1 := hs.below hb0 (Nat.le_refl _)
  obtain ⟨x, y, a, b, hv⟩ : ∃ x y a b : Int, readV .u64 mayU natV l at_ size = .tuple #[.int .u64 x, .int .i64 y, .agg #[.int .i64 a, .int .i64 b, .int .i64 0]] := by
    rcases readV_cases mayU l at_ size with ⟨a, b, _, _, h⟩ | ⟨N, j, _, _, _, _, _, h⟩
    · exact ⟨_, _, _, _, h _ _⟩
    · exact ⟨_, _, _, _, h _ _⟩
  have HV := Lib.hid hv
  clear hv
  go_enter Try.func11, Try.ntmps11
  go_wp2_with fail
  refine (readU_any A n c l at_ size _ hs1 hall hnc hn).mono ?_
  rintro e w1 ⟨rfl, hb⟩
  obtain ⟨hc, hf⟩ := bcell hb
  have hz : w.heap.size < w1.heap.size := by have := hb.size; simp at this; omega
  have hb1 := hb0.trans (hb.mono (by simp))
  clear hb
  rw [HV.out]
  go_wp2
  refine bodyPost_ret (v := .tuple #[.int .u64 x, .int .i64 y, .agg #[.int .i64 a, .int .i64 b, .int .i64 0]]) ?_ rfl ⟨by rw [HV.out], ?_⟩
  · simp [results, Try.results11, go_sem, hc]
  · exact ((hb1.setCell (by simp) _).setCell (by simp) _).setCell (by simp) _

end Go.Proofs.Ytlfbmpbnmakacaa
