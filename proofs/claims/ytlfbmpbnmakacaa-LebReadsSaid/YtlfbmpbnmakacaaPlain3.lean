/-
  What was put is read: plain facts on the values that leb.U and leb.S answer at what PutU and PutS made.
  Conditions: none.
-/
import Derived.Test.YtlfbmpbnmakacaaPadded
namespace Go.Proofs.Ytlfbmpbnmakacaa
open Go.RowKit Go.Bk Go.Bk.Leb

theorem putU_lt (n : Int) (h : FitU 9 n) : (putU n).length ≤ 10 ∧ 1 ≤ (putU n).length := by
  obtain ⟨init, c, h1, _, _, h4, _⟩ := putU_form 9 n h
  unfold putU
  rw [h1]
  simp
  omega
theorem putS_lt (n : Int) (h : FitS 9 n) : (putS n).length ≤ 10 ∧ 1 ≤ (putS n).length := by
  obtain ⟨init, c, h1, _, _, h4, _⟩ := putS_form 9 n h
  unfold putS
  rw [h1]
  simp
  omega

theorem putS_len : ∀ (j k : Nat) (n : Int), - (64 * 128 ^ j) ≤ n → n < 64 * 128 ^ j → (putG lastS k n).length ≤ j + 1
  | j, 0, n, _, _ => by simp [putG]
  | j, k + 1, n, h0, h => by
    cases hl : lastS n with
    | true => rw [putG_stop hl]; simp
    | false =>
      rw [putG_go hl]
      cases j with
      | zero =>
        simp [lastS] at hl
        omega
      | succ j =>
        have := putS_len j k (n / 128) (by rw [Int.pow_succ] at h0; omega) (by rw [Int.pow_succ] at h; omega)
        simp
        omega

theorem readU_put (pre rest : List Nat) (n : Nat) (h : n < 18446744073709551616) :
    readV .u64 mayU natV (pre ++ (putU n ++ rest)) pre.length 64 = .tuple #[.int .u64 n, .int .i64 ((pre.length + (putU n).length : Nat) : Int), faultV 0 0] := by
  obtain ⟨init, c, h1, hg, hc, h4, h5⟩ := putU_form 9 n ⟨by omega, by omega⟩
  have e : putU n = init ++ [c] := h1
  have htop := top_le init c hc
  have hn : uval (init ++ [c]) = n := by omega
  rw [e, List.append_assoc, List.cons_append, List.nil_append, show readV .u64 mayU natV (pre ++ (init ++ c :: rest)) pre.length 64 = _ from readV_groups .u64 mayU natV pre init rest c 64 (.inr rfl) hg hc, if_pos, natV_of (by omega), hn]
  · simp
  · rcases Nat.lt_or_ge init.length 9 with h9 | h9
    · exact .inl h9
    · obtain h9 : init.length = 9 := by omega
      refine .inr ⟨h9, ?_⟩
      rw [h9] at htop
      simp [mayU]
      omega

theorem readU_put32 (pre rest : List Nat) (n : Nat) (h : n < 4294967296) :
    readV .u64 mayU natV (pre ++ (putU n ++ rest)) pre.length 32 = .tuple #[.int .u64 n, .int .i64 ((pre.length + (putU n).length : Nat) : Int), faultV 0 0] := by
  obtain ⟨init, c, h1, hg, hc, h4, h5⟩ := putU_form 9 n ⟨by omega, by omega⟩
  have hl := putU_len 4 9 n (by omega) (by omega)
  rw [h1] at hl
  simp at hl
  have e : putU n = init ++ [c] := h1
  have htop := top_le init c hc
  have hn : uval (init ++ [c]) = n := by omega
  rw [e, List.append_assoc, List.cons_append, List.nil_append, show readV .u64 mayU natV (pre ++ (init ++ c :: rest)) pre.length 32 = _ from readV_groups .u64 mayU natV pre init rest c 32 (.inl rfl) hg hc, if_pos, natV_of (by omega), hn]
  · simp
  · rcases Nat.lt_or_ge init.length 4 with h9 | h9
    · exact .inl h9
    · obtain h9 : init.length = 4 := by omega
      refine .inr ⟨h9, ?_⟩
      rw [h9] at htop
      simp [mayU]
      omega

theorem low_lt (init : List Nat) (c : Nat) (hc : c < 128) : uval (init ++ [c]) < (c + 1) * 128 ^ init.length := by
  rw [uval_app]
  have := uval_lt init
  simp only [uval, Nat.mul_zero, Nat.add_zero]
  rw [show c % 128 = c from by omega, Nat.mul_comm, Nat.add_mul]
  omega

theorem sval_of (init : List Nat) (c : Nat) (m : Int) (hc : c < 128) (hl : init.length ≤ 9) (h1 : -9223372036854775808 ≤ m) (h2 : m < 9223372036854775808)
    (hm : (uval (init ++ [c]) : Int) - (if 64 ≤ c then 128 ^ (init.length + 1) else 0) = m) : sval (uval (init ++ [c])) (init.length + 1) = m := by
  have htop := top_le init c hc
  have hlow := low_lt init c hc
  have hlow2 : (c + 1) * 128 ^ init.length = c * 128 ^ init.length + 128 ^ init.length := by rw [Nat.add_mul]; omega
  generalize uval (init ++ [c]) = N at *
  unfold sval
  by_cases h9 : init.length = 9
  · rw [if_neg (by omega)]
    rw [h9] at hm htop hlow
    unfold wrap64
    split at hm <;> omega
  · rw [if_pos (by omega)]
    rw [Nat.pow_succ, Int.pow_succ]
    have ep : ((128 ^ init.length : Nat) : Int) = (128 : Int) ^ init.length := by simp
    have e1 : c * 128 ^ init.length < 64 * 128 ^ init.length ∨ 64 * 128 ^ init.length ≤ c * 128 ^ init.length := by omega
    rw [Int.pow_succ, ← ep] at hm
    rw [← ep]
    split at hm
    · rename_i h64
      have : 64 * 128 ^ init.length ≤ c * 128 ^ init.length := Nat.mul_le_mul_right _ h64
      rw [if_neg (by omega)]
      omega
    · rename_i h64
      have : (c + 1) * 128 ^ init.length ≤ 64 * 128 ^ init.length := Nat.mul_le_mul_right _ (by omega)
      rw [if_pos (by omega)]
      omega

theorem readS_put (pre rest : List Nat) (m : Int) (h1 : -9223372036854775808 ≤ m) (h2 : m < 9223372036854775808) :
    readV .i64 mayS sval (pre ++ (putS m ++ rest)) pre.length 64 = .tuple #[.int .i64 m, .int .i64 ((pre.length + (putS m).length : Nat) : Int), faultV 0 0] := by
  obtain ⟨init, c, e, hg, hc, h4, h5⟩ := putS_form 9 m ⟨by omega, by omega⟩
  have e' : putS m = init ++ [c] := e
  have htop := top_le init c hc
  have hlow := low_lt init c hc
  have hs := sval_of init c m hc h4 h1 h2 h5
  rw [e', List.append_assoc, List.cons_append, List.nil_append, show readV .i64 mayS sval (pre ++ (init ++ c :: rest)) pre.length 64 = _ from readV_groups .i64 mayS sval pre init rest c 64 (.inr rfl) hg hc, if_pos, hs]
  · simp
  · rcases Nat.lt_or_ge init.length 9 with h9 | h9
    · exact .inl h9
    · obtain h9 : init.length = 9 := by omega
      refine .inr ⟨h9, ?_⟩
      rw [h9] at htop hlow h5
      simp [mayS]
      split at h5 <;> omega

theorem readS_put32 (pre rest : List Nat) (m : Int) (h1 : -2147483648 ≤ m) (h2 : m < 2147483648) :
    readV .i64 mayS sval (pre ++ (putS m ++ rest)) pre.length 32 = .tuple #[.int .i64 m, .int .i64 ((pre.length + (putS m).length : Nat) : Int), faultV 0 0] := by
  obtain ⟨init, c, e, hg, hc, h4, h5⟩ := putS_form 9 m ⟨by omega, by omega⟩
  have hl := putS_len 4 9 m (by omega) (by omega)
  rw [e] at hl
  simp at hl
  have e' : putS m = init ++ [c] := e
  have htop := top_le init c hc
  have hlow := low_lt init c hc
  have hs := sval_of init c m hc h4 (by omega) (by omega) h5
  rw [e', List.append_assoc, List.cons_append, List.nil_append, show readV .i64 mayS sval (pre ++ (init ++ c :: rest)) pre.length 32 = _ from readV_groups .i64 mayS sval pre init rest c 32 (.inl rfl) hg hc, if_pos, hs]
  · simp
  · rcases Nat.lt_or_ge init.length 4 with h9 | h9
    · exact .inl h9
    · obtain h9 : init.length = 4 := by omega
      refine .inr ⟨h9, ?_⟩
      rw [h9] at htop hlow h5
      simp [mayS]
      split at h5 <;> omega

/-- no beginning of a number's bytes is one -/
theorem readV_head (k : IntKind) (may : Nat → Nat → Bool) (val : Nat → Nat → Int) (init : List Nat) (c i : Nat) (hg : Goes init) (hl : init.length ≤ 9) (hi : i ≤ init.length) :
    readV k may val ((init ++ [c]).take i) 0 64 = .tuple #[.int k 0, .int .i64 0, faultV 4 i] := by
  rw [List.take_append_of_le_length hi]
  unfold readV
  rw [if_neg (by simp), show (rd (may (Int.toNat 64)) (most (Int.toNat 64)) (List.drop (Int.toNat 0) (List.take i init)) 0 0) = rd (may 64) 9 (List.take i init) 0 0 from rfl, rd_missing (may 64) 9]
  · simp [rdV, faultV]
    omega
  · intro x hx
    exact hg x (List.mem_of_mem_take hx)
  · simp
    omega

/-- a whole struct of a fault -/
def FB (w : World) (b : Nat) (x y z : Value) : Prop := w.heap[b]? = some (.cells #[x, y, z] 28 (0, 0))

theorem FB.lt {w : World} {b : Nat} {x y z : Value} (h : FB w b x y z) : b < w.heap.size := (Array.getElem?_eq_some_iff.1 h).1
theorem FB.new (w : World) (x y z : Value) : FB (w.alloc (.cells #[x, y, z] 28)) w.heap.size x y z := heap_alloc_new w _
theorem FB.below {w w' : World} {B b : Nat} {x y z : Value} (h : FB w b x y z) (hb : Below B w w') (hB : w.heap.size ≤ B) : FB w' b x y z := (hb.block b (Nat.lt_of_lt_of_le h.lt hB)).trans h
theorem FB.alloc {w : World} {b : Nat} {x y z : Value} (h : FB w b x y z) (o : Obj) : FB (w.alloc o) b x y z := h.below ((Below.refl _ _).alloc (Nat.le_refl _) o) (Nat.le_refl _)
theorem FB.cells {w : World} {b : Nat} {x y z : Value} (h : FB w b x y z) : w.cell? ⟨b, 0, none⟩ = some x ∧ w.cell? ⟨b, 0 + 1, none⟩ = some y ∧ w.cell? ⟨b, 0 + 1 + 1, none⟩ = some z :=
  ⟨cell_of_row w b 0 _ 28 (0, 0) h, cell_of_row w b 1 _ 28 (0, 0) h, cell_of_row w b 2 _ 28 (0, 0) h⟩

end Go.Proofs.Ytlfbmpbnmakacaa
