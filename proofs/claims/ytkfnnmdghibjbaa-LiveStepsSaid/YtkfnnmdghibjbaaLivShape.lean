/-
  What an instruction takes and answers, as the program tells it.
  Conditions: as each says.
-/
import Derived.Test.YtkfnnmdghibjbaaLivREnv
namespace Go.Proofs.Ytkfnnmdghibjbaa
open Go.RowKit Go.Bk Go.Bk.Liv Go.Bk.Num Go.Bk.Mem
set_option linter.unusedVariables false
set_option linter.unusedSimpArgs false

/-- no slice, a nil one, or one in new memory -/
def NewV (base : Nat) (v : Value) : Prop := ∀ A n c, v = .slice A n c → ∀ a, A = some a → base ≤ a.block
theorem NewV.nil (base : Nat) : NewV base (.slice none 0 0) := by
  intro A n c e a ha
  injection e with e
  rw [← e] at ha
  cases ha
theorem NewV.at {base g n c : Nat} (h : base ≤ g) : NewV base (.slice (some ⟨g, 0, none⟩) n c) := by
  intro A n c e a ha
  injection e with e
  rw [← e] at ha
  injection ha with ha
  subst ha
  exact h
/-- a shape that tells what F tells, of the number n -/
def ShP (fr : Bool) (F : Option (List Int × List Int)) (n : Nat) (lo hi : Int) (w : World) (en : Ending) (w' : World) : Prop :=
  ∃ (vi vo : Value) (most : Nat) (a b : Int) (ok : Bool) (i o : List Int), en = .returned (.tuple #[.agg #[vi, vo, .int .u64 (most : Int), .int .i64 a, .int .i64 b], .bool ok]) ∧ IR w' vi i ∧ IR w' vo o ∧ most < 18446744073709551616 ∧
    (F = none → ok = false ∨ most < n) ∧ (∀ x, F = some x → ok = true ∧ n ≤ most ∧ x = (i, o) ∧ a = lo ∧ b = hi) ∧ (fr = true → NewV w.heap.size vi ∧ NewV w.heap.size vo) ∧ Below w.heap.size w w'

theorem ShP.no {fr : Bool} {F : Option (List Int × List Int)} {n : Nat} {lo hi : Int} {w w' : World} (hF : F = none) (hb : Below w.heap.size w w') :
    ShP fr F n lo hi w (.returned (.tuple #[.agg #[.slice none 0 0, .slice none 0 0, .int .u64 0, .int .i64 0, .int .i64 0], .bool false])) w' :=
  ⟨_, _, 0, 0, 0, false, [], [], rfl, IR.nil _, IR.nil _, by omega, fun _ => .inl rfl, (fun x h => by rw [hF] at h; cases h), fun _ => ⟨NewV.nil _, NewV.nil _⟩, hb⟩

theorem blk5 {w : World} {g : Nat} {e : TypeId} {a b c d f : Value} (h : Blk w g e #[a, b, c, d, f]) :
    w.cell? ⟨g, 0, none⟩ = some a ∧ w.cell? ⟨g, 1, none⟩ = some b ∧ w.cell? ⟨g, 2, none⟩ = some c ∧ w.cell? ⟨g, 3, none⟩ = some d ∧ w.cell? ⟨g, 4, none⟩ = some f := by
  have c0 := h.cell 0
  have c1 := h.cell 1
  have c2 := h.cell 2
  have c3 := h.cell 3
  have c4 := h.cell 4
  simp at c0 c1 c2 c3 c4
  exact ⟨c0, c1, c2, c3, c4⟩
theorem frz {w : World} {g : Nat} {e : TypeId} {cs : Array Value} (h : Blk w g e cs) (i : Nat) : w.frozen? ⟨g, i, none⟩ = false := frozen_of_row w g i _ _ h
/-- five cells of a block of one's own, written -/
theorem below5 {B : Nat} {w w' : World} {g : Nat} (h : Below B w w') (hg : B ≤ g) (a b c d e : Value) :
    Below B w (((((w'.setCell ⟨g, 0, none⟩ a).setCell ⟨g, 1, none⟩ b).setCell ⟨g, 2, none⟩ c).setCell ⟨g, 3, none⟩ d).setCell ⟨g, 4, none⟩ e) :=
  ((((h.setCell (p := ⟨g, 0, none⟩) hg a).setCell (p := ⟨g, 1, none⟩) hg b).setCell (p := ⟨g, 2, none⟩) hg c).setCell (p := ⟨g, 3, none⟩) hg d).setCell (p := ⟨g, 4, none⟩) hg e
theorem blk5s {w : World} {g k : Nat} {t : TypeId} {cs : Array Value} (h : Blk w k t cs) (hg : k ≠ g) (a b c d e : Value) :
    Blk (((((w.setCell ⟨g, 0, none⟩ a).setCell ⟨g, 1, none⟩ b).setCell ⟨g, 2, none⟩ c).setCell ⟨g, 3, none⟩ d).setCell ⟨g, 4, none⟩ e) k t cs :=
  ((((h.setCell (p := ⟨g, 0, none⟩) a hg).setCell (p := ⟨g, 1, none⟩) b hg).setCell (p := ⟨g, 2, none⟩) c hg).setCell (p := ⟨g, 3, none⟩) d hg).setCell (p := ⟨g, 4, none⟩) e hg

set_option maxRecDepth 100000 in
set_option maxHeartbeats 1000000 in
theorem memory_257 (m : Bool) (n : Nat) (hn : n < 18446744073709551616) (w : World) : Calls Try.prog 85 #[.int .i64 257, .bool m] w (ShP true (memF m 257 n) n 0 0 w) := by
  have ha : acc 257 = none := by kernel_rfl
  have HT := Lib.hid (show accTuple 257 = .tuple #[.int .i64 0, .int .i64 0, .bool false, .bool false] by simp [accTuple, ha])
  have HF := Lib.hid (show memF m 257 n = if m = false then none else if n ≤ 8589934592 then some ([127], []) else none by simp [memF])
  clear ha
  have HN := Lib.hid hn
  clear hn
  go_enter Try.func85, Try.ntmps85
  go_wp2_with fail
  have B0 := Lib.hid (show Below w.heap.size w ((w.alloc (.cells #[.slice none 0 0, .slice none 0 0, .int .u64 0, .int .i64 0, .int .i64 0] 95)).alloc (.cells #[.int .i64 127] 3)) from ((Below.refl _ _).alloc (Nat.le_refl _) _).alloc (by simp) _)
  have K0 := Lib.hid ((Blk.new w 95 #[.slice none 0 0, .slice none 0 0, .int .u64 0, .int .i64 0, .int .i64 0]).alloc (.cells #[.int .i64 127] 3))
  have K1 := Lib.hid (Blk.newAt (w.alloc (.cells #[.slice none 0 0, .slice none 0 0, .int .u64 0, .int .i64 0, .int .i64 0] 95)) (N := w.heap.size + 1) 3 #[.int .i64 127] (by simp))
  refine (Access_any 257 _).mono ?_
  rintro e w1 ⟨rfl, hb1⟩
  rw [HT.out]
  have B1 := Lib.hid (B0.out.trans (hb1.mono B0.out.size))
  have K2 := Lib.hid (K0.out.below hb1 K0.out.lt)
  have K3 := Lib.hid (K1.out.below hb1 K1.out.lt)
  clear hb1
  have hs0 := K2.out.lt
  have hs1 := K3.out.lt
  obtain ⟨r0, r1, r2, r3, r4⟩ := blk5 K2.out
  have z0 := frz K2.out 0
  have z1 := frz K2.out 1
  have z2 := frz K2.out 2
  have z3 := frz K2.out 3
  have z4 := frz K2.out 4
  go_wp2
  refine bodyPost_ret (v := .tuple #[.agg #[.slice (some ⟨w.heap.size + 1, 0, none⟩) 1 1, .slice none 0 0, .int .u64 8589934592, .int .i64 0, .int .i64 0], .bool m]) (by simp [results, Try.results85, go_sem, hs0, r0, r1, r2, r3, r4]) rfl ?_
  have := HN.out
  refine ⟨_, _, 8589934592, 0, 0, m, [127], [], rfl, ?_, ?_, by omega, ?_, ?_, ?_, ?_⟩
  · exact IR.one (t := 3) (x := 127) (blk5s K3.out (by omega) _ _ _ _ _)
  · exact IR.nil _
  · intro hf
    rw [HF.out] at hf
    cases m with
    | false => exact .inl rfl
    | true => exact .inr (by simp at hf; omega)
  · intro x hf
    rw [HF.out] at hf
    cases m with
    | false => simp at hf
    | true =>
      simp at hf
      exact ⟨rfl, by omega, hf.2.symm, rfl, rfl⟩
  · exact fun _ => ⟨NewV.at (by have := B1.out.size; omega), NewV.nil _⟩
  · exact (below5 B1.out (Nat.le_refl _) _ _ _ _ _)

set_option maxRecDepth 100000 in
set_option maxHeartbeats 1000000 in
theorem memory_63 (m : Bool) (n : Nat) (hn : n < 18446744073709551616) (w : World) : Calls Try.prog 85 #[.int .i64 63, .bool m] w (ShP true (memF m 63 n) n 0 0 w) := by
  have ha : acc 63 = none := by kernel_rfl
  have HT := Lib.hid (show accTuple 63 = .tuple #[.int .i64 0, .int .i64 0, .bool false, .bool false] by simp [accTuple, ha])
  have HF := Lib.hid (show memF m 63 n = if m = false then none else if n = 0 then some ([], [127]) else none by simp [memF, ha])
  clear ha
  have HN := Lib.hid hn
  clear hn
  go_enter Try.func85, Try.ntmps85
  go_wp2_with fail
  have B0 := Lib.hid (show Below w.heap.size w ((w.alloc (.cells #[.slice none 0 0, .slice none 0 0, .int .u64 0, .int .i64 0, .int .i64 0] 95)).alloc (.cells #[.int .i64 127] 3)) from ((Below.refl _ _).alloc (Nat.le_refl _) _).alloc (by simp) _)
  have K0 := Lib.hid ((Blk.new w 95 #[.slice none 0 0, .slice none 0 0, .int .u64 0, .int .i64 0, .int .i64 0]).alloc (.cells #[.int .i64 127] 3))
  have K1 := Lib.hid (Blk.newAt (w.alloc (.cells #[.slice none 0 0, .slice none 0 0, .int .u64 0, .int .i64 0, .int .i64 0] 95)) (N := w.heap.size + 1) 3 #[.int .i64 127] (by simp))
  refine (Access_any 63 _).mono ?_
  rintro e w1 ⟨rfl, hb1⟩
  rw [HT.out]
  have B1 := Lib.hid (B0.out.trans (hb1.mono B0.out.size))
  have K2 := Lib.hid (K0.out.below hb1 K0.out.lt)
  have K3 := Lib.hid (K1.out.below hb1 K1.out.lt)
  clear hb1
  have hs0 := K2.out.lt
  have hs1 := K3.out.lt
  obtain ⟨r0, r1, r2, r3, r4⟩ := blk5 K2.out
  have z0 := frz K2.out 0
  have z1 := frz K2.out 1
  have z2 := frz K2.out 2
  have z3 := frz K2.out 3
  have z4 := frz K2.out 4
  go_wp2
  refine bodyPost_ret (v := .tuple #[.agg #[.slice none 0 0, .slice (some ⟨w.heap.size + 1, 0, none⟩) 1 1, .int .u64 0, .int .i64 0, .int .i64 0], .bool m]) (by simp [results, Try.results85, go_sem, hs0, r0, r1, r2, r3, r4]) rfl ?_
  have := HN.out
  refine ⟨_, _, 0, 0, 0, m, [], [127], rfl, ?_, ?_, by omega, ?_, ?_, ?_, ?_⟩
  · exact IR.nil _
  · exact IR.one (t := 3) (x := 127) (blk5s K3.out (by omega) _ _ _ _ _)
  · intro hf
    rw [HF.out] at hf
    cases m with
    | false => exact .inl rfl
    | true => exact .inr (by simp at hf; omega)
  · intro x hf
    rw [HF.out] at hf
    cases m with
    | false => simp at hf
    | true =>
      simp at hf
      exact ⟨rfl, by omega, hf.2.symm, rfl, rfl⟩
  · exact fun _ => ⟨NewV.nil _, NewV.at (by have := B1.out.size; omega)⟩
  · exact (below5 B1.out (Nat.le_refl _) _ _ _ _ _)

set_option maxRecDepth 100000 in
set_option maxHeartbeats 1000000 in
theorem memory_64 (m : Bool) (n : Nat) (hn : n < 18446744073709551616) (w : World) : Calls Try.prog 85 #[.int .i64 64, .bool m] w (ShP true (memF m 64 n) n 0 0 w) := by
  have ha : acc 64 = none := by kernel_rfl
  have HT := Lib.hid (show accTuple 64 = .tuple #[.int .i64 0, .int .i64 0, .bool false, .bool false] by simp [accTuple, ha])
  have HF := Lib.hid (show memF m 64 n = if m = false then none else if n = 0 then some ([127], [127]) else none by simp [memF, ha])
  clear ha
  have HN := Lib.hid hn
  clear hn
  go_enter Try.func85, Try.ntmps85
  go_wp2_with fail
  have B0 := Lib.hid (show Below w.heap.size w ((w.alloc (.cells #[.slice none 0 0, .slice none 0 0, .int .u64 0, .int .i64 0, .int .i64 0] 95)).alloc (.cells #[.int .i64 127] 3)) from ((Below.refl _ _).alloc (Nat.le_refl _) _).alloc (by simp) _)
  have K0 := Lib.hid ((Blk.new w 95 #[.slice none 0 0, .slice none 0 0, .int .u64 0, .int .i64 0, .int .i64 0]).alloc (.cells #[.int .i64 127] 3))
  have K1 := Lib.hid (Blk.newAt (w.alloc (.cells #[.slice none 0 0, .slice none 0 0, .int .u64 0, .int .i64 0, .int .i64 0] 95)) (N := w.heap.size + 1) 3 #[.int .i64 127] (by simp))
  refine (Access_any 64 _).mono ?_
  rintro e w1 ⟨rfl, hb1⟩
  rw [HT.out]
  have B1 := Lib.hid (B0.out.trans (hb1.mono B0.out.size))
  have K2 := Lib.hid (K0.out.below hb1 K0.out.lt)
  have K3 := Lib.hid (K1.out.below hb1 K1.out.lt)
  clear hb1
  have hs0 := K2.out.lt
  have hs1 := K3.out.lt
  obtain ⟨r0, r1, r2, r3, r4⟩ := blk5 K2.out
  have z0 := frz K2.out 0
  have z1 := frz K2.out 1
  have z2 := frz K2.out 2
  have z3 := frz K2.out 3
  have z4 := frz K2.out 4
  go_wp2
  refine bodyPost_ret (v := .tuple #[.agg #[.slice (some ⟨w.heap.size + 1, 0, none⟩) 1 1, .slice (some ⟨w.heap.size + 1, 0, none⟩) 1 1, .int .u64 0, .int .i64 0, .int .i64 0], .bool m]) (by simp [results, Try.results85, go_sem, hs0, r0, r1, r2, r3, r4]) rfl ?_
  have := HN.out
  refine ⟨_, _, 0, 0, 0, m, [127], [127], rfl, ?_, ?_, by omega, ?_, ?_, ?_, ?_⟩
  · exact IR.one (t := 3) (x := 127) (blk5s K3.out (by omega) _ _ _ _ _)
  · exact IR.one (t := 3) (x := 127) (blk5s K3.out (by omega) _ _ _ _ _)
  · intro hf
    rw [HF.out] at hf
    cases m with
    | false => exact .inl rfl
    | true => exact .inr (by simp at hf; omega)
  · intro x hf
    rw [HF.out] at hf
    cases m with
    | false => simp at hf
    | true =>
      simp at hf
      exact ⟨rfl, by omega, hf.2.symm, rfl, rfl⟩
  · exact fun _ => ⟨NewV.at (by have := B1.out.size; omega), NewV.at (by have := B1.out.size; omega)⟩
  · exact (below5 B1.out (Nat.le_refl _) _ _ _ _ _)

set_option maxRecDepth 100000 in
set_option maxHeartbeats 1000000 in
theorem memory_store (op k wd : Int) (sg : Bool) (ha : acc op = some (k, wd, true, sg)) (m : Bool) (n : Nat) (hn : n < 18446744073709551616) (w : World) : Calls Try.prog 85 #[.int .i64 op, .bool m] w (ShP true (memF m op n) n 0 0 w) := by
  have HT := Lib.hid (show accTuple op = .tuple #[.int .i64 k, .int .i64 wd, .bool true, .bool true] by simp [accTuple, ha])
  have hb := (acc_bounds ha).2.2
  have HF := Lib.hid (show memF m op n = if m = false then none else if n ≤ 4294967295 then some ([127, k], []) else none by simp only [memF, ha]; rw [if_neg (show ¬ op = 257 by omega)]; rfl)
  have g0 : (op == 257) = false := by simp; omega
  have g1 : (op == 63) = false := by simp; omega
  have g2 : (op == 64) = false := by simp; omega
  clear ha hb
  have HN := Lib.hid hn
  clear hn
  go_enter Try.func85, Try.ntmps85
  go_wp2_with fail
  have B0 := Lib.hid (show Below w.heap.size w ((w.alloc (.cells #[.slice none 0 0, .slice none 0 0, .int .u64 0, .int .i64 0, .int .i64 0] 95)).alloc (.cells #[.int .i64 127] 3)) from ((Below.refl _ _).alloc (Nat.le_refl _) _).alloc (by simp) _)
  have K0 := Lib.hid ((Blk.new w 95 #[.slice none 0 0, .slice none 0 0, .int .u64 0, .int .i64 0, .int .i64 0]).alloc (.cells #[.int .i64 127] 3))
  have K1 := Lib.hid (Blk.newAt (w.alloc (.cells #[.slice none 0 0, .slice none 0 0, .int .u64 0, .int .i64 0, .int .i64 0] 95)) (N := w.heap.size + 1) 3 #[.int .i64 127] (by simp))
  refine (Access_any op _).mono ?_
  rintro e w1 ⟨rfl, hb1⟩
  rw [HT.out]
  have B1 := Lib.hid (B0.out.trans (hb1.mono B0.out.size))
  have K2 := Lib.hid (K0.out.below hb1 K0.out.lt)
  have K3 := Lib.hid (K1.out.below hb1 K1.out.lt)
  clear hb1
  have hs0 := K2.out.lt
  have hs1 := K3.out.lt
  obtain ⟨r0, r1, r2, r3, r4⟩ := blk5 K2.out
  have z0 := frz K2.out 0
  have z1 := frz K2.out 1
  have z2 := frz K2.out 2
  have z3 := frz K2.out 3
  have z4 := frz K2.out 4
  go_wp2
  refine bodyPost_ret (v := .tuple #[.agg #[.slice (some ⟨w1.heap.size, 0, none⟩) 2 2, .slice none 0 0, .int .u64 4294967295, .int .i64 0, .int .i64 0], .bool m]) (by simp [results, Try.results85, go_sem, hs0, r0, r1, r2, r3, r4]) rfl ?_
  have := HN.out
  refine ⟨_, _, 4294967295, 0, 0, m, [127, k], [], rfl, ?_, ?_, by omega, ?_, ?_, ?_, ?_⟩
  · exact IR.two (t := 3) (x := 127) (y := k) (Blk.newAt _ _ _ (by simp))
  · exact IR.nil _
  · intro hf
    rw [HF.out] at hf
    cases m with
    | false => exact .inl rfl
    | true => exact .inr (by simp at hf; omega)
  · intro x hf
    rw [HF.out] at hf
    cases m with
    | false => simp at hf
    | true =>
      simp at hf
      exact ⟨rfl, by omega, hf.2.symm, rfl, rfl⟩
  · exact fun _ => ⟨NewV.at (by have := B1.out.size; omega), NewV.nil _⟩
  · exact (below5 B1.out (Nat.le_refl _) _ _ _ _ _).alloc (by simp; have := B1.out.size; omega) _

set_option maxRecDepth 100000 in
set_option maxHeartbeats 1000000 in
theorem memory_load (op k wd : Int) (sg : Bool) (ha : acc op = some (k, wd, false, sg)) (m : Bool) (n : Nat) (hn : n < 18446744073709551616) (w : World) : Calls Try.prog 85 #[.int .i64 op, .bool m] w (ShP true (memF m op n) n 0 0 w) := by
  have HT := Lib.hid (show accTuple op = .tuple #[.int .i64 k, .int .i64 wd, .bool false, .bool true] by simp [accTuple, ha])
  have hb := (acc_bounds ha).2.2
  have HF := Lib.hid (show memF m op n = if m = false then none else if n ≤ 4294967295 then some ([127], [k]) else none by simp only [memF, ha]; rw [if_neg (show ¬ op = 257 by omega)]; rfl)
  have g0 : (op == 257) = false := by simp; omega
  have g1 : (op == 63) = false := by simp; omega
  have g2 : (op == 64) = false := by simp; omega
  clear ha hb
  have HN := Lib.hid hn
  clear hn
  go_enter Try.func85, Try.ntmps85
  go_wp2_with fail
  have B0 := Lib.hid (show Below w.heap.size w ((w.alloc (.cells #[.slice none 0 0, .slice none 0 0, .int .u64 0, .int .i64 0, .int .i64 0] 95)).alloc (.cells #[.int .i64 127] 3)) from ((Below.refl _ _).alloc (Nat.le_refl _) _).alloc (by simp) _)
  have K0 := Lib.hid ((Blk.new w 95 #[.slice none 0 0, .slice none 0 0, .int .u64 0, .int .i64 0, .int .i64 0]).alloc (.cells #[.int .i64 127] 3))
  have K1 := Lib.hid (Blk.newAt (w.alloc (.cells #[.slice none 0 0, .slice none 0 0, .int .u64 0, .int .i64 0, .int .i64 0] 95)) (N := w.heap.size + 1) 3 #[.int .i64 127] (by simp))
  refine (Access_any op _).mono ?_
  rintro e w1 ⟨rfl, hb1⟩
  rw [HT.out]
  have B1 := Lib.hid (B0.out.trans (hb1.mono B0.out.size))
  have K2 := Lib.hid (K0.out.below hb1 K0.out.lt)
  have K3 := Lib.hid (K1.out.below hb1 K1.out.lt)
  clear hb1
  have hs0 := K2.out.lt
  have hs1 := K3.out.lt
  obtain ⟨r0, r1, r2, r3, r4⟩ := blk5 K2.out
  have z0 := frz K2.out 0
  have z1 := frz K2.out 1
  have z2 := frz K2.out 2
  have z3 := frz K2.out 3
  have z4 := frz K2.out 4
  go_wp2
  refine bodyPost_ret (v := .tuple #[.agg #[.slice (some ⟨w.heap.size + 1, 0, none⟩) 1 1, .slice (some ⟨w1.heap.size, 0, none⟩) 1 1, .int .u64 4294967295, .int .i64 0, .int .i64 0], .bool m]) (by simp [results, Try.results85, go_sem, hs0, r0, r1, r2, r3, r4]) rfl ?_
  have := HN.out
  refine ⟨_, _, 4294967295, 0, 0, m, [127], [k], rfl, ?_, ?_, by omega, ?_, ?_, ?_, ?_⟩
  · exact IR.one (t := 3) (x := 127) ((blk5s K3.out (by omega) _ _ _ _ _).alloc _)
  · exact IR.one (t := 3) (x := k) (Blk.newAt _ _ _ (by simp))
  · intro hf
    rw [HF.out] at hf
    cases m with
    | false => exact .inl rfl
    | true => exact .inr (by simp at hf; omega)
  · intro x hf
    rw [HF.out] at hf
    cases m with
    | false => simp at hf
    | true =>
      simp at hf
      exact ⟨rfl, by omega, hf.2.symm, rfl, rfl⟩
  · exact fun _ => ⟨NewV.at (by have := B1.out.size; omega), NewV.at (by have := B1.out.size; omega)⟩
  · exact (below5 B1.out (Nat.le_refl _) _ _ _ _ _).alloc (by simp; have := B1.out.size; omega) _

set_option maxRecDepth 100000 in
set_option maxHeartbeats 1000000 in
theorem memory_none (op : Int) (ha : acc op = none) (g0 : (op == 257) = false) (g1 : (op == 63) = false) (g2 : (op == 64) = false) (m : Bool) (n : Nat) (hn : n < 18446744073709551616) (w : World) : Calls Try.prog 85 #[.int .i64 op, .bool m] w (ShP true (memF m op n) n 0 0 w) := by
  have HT := Lib.hid (show accTuple op = .tuple #[.int .i64 0, .int .i64 0, .bool false, .bool false] by simp [accTuple, ha])
  have HF := Lib.hid (show memF m op n = none by
    simp at g0 g1 g2
    simp only [memF, ha, g0, g1, g2, if_false]
    cases m <;> rfl)
  clear ha
  have HN := Lib.hid hn
  clear hn
  go_enter Try.func85, Try.ntmps85
  go_wp2_with fail
  have B0 := Lib.hid (show Below w.heap.size w ((w.alloc (.cells #[.slice none 0 0, .slice none 0 0, .int .u64 0, .int .i64 0, .int .i64 0] 95)).alloc (.cells #[.int .i64 127] 3)) from ((Below.refl _ _).alloc (Nat.le_refl _) _).alloc (by simp) _)
  have K0 := Lib.hid ((Blk.new w 95 #[.slice none 0 0, .slice none 0 0, .int .u64 0, .int .i64 0, .int .i64 0]).alloc (.cells #[.int .i64 127] 3))
  have K1 := Lib.hid (Blk.newAt (w.alloc (.cells #[.slice none 0 0, .slice none 0 0, .int .u64 0, .int .i64 0, .int .i64 0] 95)) (N := w.heap.size + 1) 3 #[.int .i64 127] (by simp))
  refine (Access_any op _).mono ?_
  rintro e w1 ⟨rfl, hb1⟩
  rw [HT.out]
  have B1 := Lib.hid (B0.out.trans (hb1.mono B0.out.size))
  have K2 := Lib.hid (K0.out.below hb1 K0.out.lt)
  have K3 := Lib.hid (K1.out.below hb1 K1.out.lt)
  clear hb1
  have hs0 := K2.out.lt
  have hs1 := K3.out.lt
  obtain ⟨r0, r1, r2, r3, r4⟩ := blk5 K2.out
  have z0 := frz K2.out 0
  have z1 := frz K2.out 1
  have z2 := frz K2.out 2
  have z3 := frz K2.out 3
  have z4 := frz K2.out 4
  go_wp2
  refine bodyPost_ret (v := .tuple #[.agg #[.slice none 0 0, .slice none 0 0, .int .u64 0, .int .i64 0, .int .i64 0], .bool false]) (by simp [results, Try.results85, go_sem, hs0, r0, r1, r2, r3, r4]) rfl ?_
  exact ShP.no HF.out (below5 B1.out (Nat.le_refl _) _ _ _ _ _)

theorem memory_any (op : Int) (m : Bool) (n : Nat) (hn : n < 18446744073709551616) (w : World) : Calls Try.prog 85 #[.int .i64 op, .bool m] w (ShP true (memF m op n) n 0 0 w) := by
  cases ha : acc op with
  | some r =>
    obtain ⟨k, wd, st, sg⟩ := r
    cases st with
    | true => exact memory_store op k wd sg ha m n hn w
    | false => exact memory_load op k wd sg ha m n hn w
  | none =>
    by_cases h0 : op = 257
    · subst h0; exact memory_257 m n hn w
    by_cases h1 : op = 63
    · subst h1; exact memory_63 m n hn w
    by_cases h2 : op = 64
    · subst h2; exact memory_64 m n hn w
    exact memory_none op ha (by simpa using h0) (by simpa using h1) (by simpa using h2) m n hn w
end Go.Proofs.Ytkfnnmdghibjbaa
