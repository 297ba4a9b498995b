/-
 The shape of an instruction, as the program tells it.
 Conditions: none.
-/
import Derived.Test.YtgmapikcpnffhaaGreatLivREnv
namespace Go.Proofs.YtgmapikcpnffhaaGreat
open Go.RowKit Go.Bk Go.Bk.Liv Go.Bk.Num Go.Bk.Mem
set_option linter.unusedVariables false
set_option linter.unusedSimpArgs false

/-- no slice, a nil one, or one in new memory -/
def NewV (base : Nat) (v : Value) : Prop := ∀ A n c, v = .slice A n c → ∀ a, A = some a → base ≤ a.block
theorem NewV.nil (base : Nat) : NewV base (.slice none 0 0) := by
 intro A n c e a ha
 injection e with e
 rw [← e] at ha
 cases ha
theorem NewV.at {base g n c : Nat} (h : base ≤ g) : NewV base (.slice (some ⟨g, 0, none⟩) n c) := by
 intro A n c e a ha
 injection e with e
 rw [← e] at ha
 injection ha with ha
 subst ha
 exact h
/-- a shape that tells what F tells, of the number n -/
def ShP (fr : Bool) (F : Option (List Int × List Int)) (n : Nat) (lo hi : Int) (w : World) (en : Ending) (w' : World) : Prop :=
 ∃ (vi vo : Value) (most : Nat) (a b : Int) (ok : Bool) (i o : List Int), en = .returned (.tuple #[.agg #[vi, vo, .int .u64 (most : Int), .int .i64 a, .int .i64 b], .bool ok]) ∧ IR w' vi i ∧ IR w' vo o ∧ most < 18446744073709551616 ∧
  (F = none → ok = false ∨ most < n) ∧ (∀ x, F = some x → ok = true ∧ n ≤ most ∧ x = (i, o) ∧ a = lo ∧ b = hi) ∧ (fr = true → NewV w.heap.size vi ∧ NewV w.heap.size vo) ∧ Below w.heap.size w w'

theorem ShP.no {fr : Bool} {F : Option (List Int × List Int)} {n : Nat} {lo hi : Int} {w w' : World} (hF : F = none) (hb : Below w.heap.size w w') :
  ShP fr F n lo hi w (.returned (.tuple #[.agg #[.slice none 0 0, .slice none 0 0, .int .u64 0, .int .i64 0, .int .i64 0], .bool false])) w' :=
 ⟨_, _, 0, 0, 0, false, [], [], rfl, IR.nil _, IR.nil _, by omega, fun _ => .inl rfl, (fun x h => by rw [hF] at h; cases h), fun _ => ⟨NewV.nil _, NewV.nil _⟩, hb⟩

theorem blk5 {w : World} {g : Nat} {e : TypeId} {a b c d f : Value} (h : Blk w g e #[a, b, c, d, f]) :
  w.cell? ⟨g, 0, none⟩ = some a ∧ w.cell? ⟨g, 1, none⟩ = some b ∧ w.cell? ⟨g, 2, none⟩ = some c ∧ w.cell? ⟨g, 3, none⟩ = some d ∧ w.cell? ⟨g, 4, none⟩ = some f := by
 have c0 := h.cell 0
 have c1 := h.cell 1
 have c2 := h.cell 2
 have c3 := h.cell 3
 have c4 := h.cell 4
 simp at c0 c1 c2 c3 c4
 exact ⟨c0, c1, c2, c3, c4⟩
theorem frz {w : World} {g : Nat} {e : TypeId} {cs : Array Value} (h : Blk w g e cs) (i : Nat) : w.frozen? ⟨g, i, none⟩ = false := frozen_of_row w g i _ _ h
/-- five cells of a block of one's own, written -/
theorem below5 {B : Nat} {w w' : World} {g : Nat} (h : Below B w w') (hg : B ≤ g) (a b c d e : Value) :
  Below B w (((((w'.setCell ⟨g, 0, none⟩ a).setCell ⟨g, 1, none⟩ b).setCell ⟨g, 2, none⟩ c).setCell ⟨g, 3, none⟩ d).setCell ⟨g, 4, none⟩ e) :=
 ((((h.setCell (p := ⟨g, 0, none⟩) hg a).setCell (p := ⟨g, 1, none⟩) hg b).setCell (p := ⟨g, 2, none⟩) hg c).setCell (p := ⟨g, 3, none⟩) hg d).setCell (p := ⟨g, 4, none⟩) hg e
theorem blk5s {w : World} {g k : Nat} {t : TypeId} {cs : Array Value} (h : Blk w k t cs) (hg : k ≠ g) (a b c d e : Value) :
  Blk (((((w.setCell ⟨g, 0, none⟩ a).setCell ⟨g, 1, none⟩ b).setCell ⟨g, 2, none⟩ c).setCell ⟨g, 3, none⟩ d).setCell ⟨g, 4, none⟩ e) k t cs :=
 ((((h.setCell (p := ⟨g, 0, none⟩) a hg).setCell (p := ⟨g, 1, none⟩) b hg).setCell (p := ⟨g, 2, none⟩) c hg).setCell (p := ⟨g, 3, none⟩) d hg).setCell (p := ⟨g, 4, none⟩) e hg

set_option maxRecDepth 100000 in
set_option maxHeartbeats 1000000 in
theorem memory_257 (m : Bool) (n : Nat) (hn : n < 18446744073709551616) (w : World) : Calls Tryz.prog 122 #[.int .i64 257, .bool m] w (ShP true (memF m 257 n) n 0 0 w) := by
 have ha : acc 257 = none := by kernel_rfl
 have HT := Lib.hid (show accTuple 257 = .tuple #[.int .i64 0, .int .i64 0, .bool false, .bool false] by simp [accTuple, ha])
 have HF := Lib.hid (show memF m 257 n = if m = false then none else if n ≤ 8589934592 then some ([127], []) else none by simp [memF])
 clear ha
 have HN := Lib.hid hn
 clear hn
 go_enter Tryz.func122, Tryz.ntmps122
 go_wp2_with fail
 have B0 := Lib.hid (show Below w.heap.size w ((w.alloc (.cells #[.slice none 0 0, .slice none 0 0, .int .u64 0, .int .i64 0, .int .i64 0] 148)).alloc (.cells #[.int .i64 127] 3)) from ((Below.refl _ _).alloc (Nat.le_refl _) _).alloc (by simp) _)
 have K0 := Lib.hid ((Blk.new w 148 #[.slice none 0 0, .slice none 0 0, .int .u64 0, .int .i64 0, .int .i64 0]).alloc (.cells #[.int .i64 127] 3))
 have K1 := Lib.hid (Blk.newAt (w.alloc (.cells #[.slice none 0 0, .slice none 0 0, .int .u64 0, .int .i64 0, .int .i64 0] 148)) (N := w.heap.size + 1) 3 #[.int .i64 127] (by simp))
 refine (Access_any 257 _).mono ?_
 rintro e w1 ⟨rfl, hb1⟩
 rw [HT.out]
 have B1 := Lib.hid (B0.out.trans (hb1.mono B0.out.size))
 have K2 := Lib.hid (K0.out.below hb1 K0.out.lt)
 have K3 := Lib.hid (K1.out.below hb1 K1.out.lt)
 clear hb1
 have hs0 := K2.out.lt
 have hs1 := K3.out.lt
 obtain ⟨r0, r1, r2, r3, r4⟩ := blk5 K2.out
 have z0 := frz K2.out 0
 have z1 := frz K2.out 1
 have z2 := frz K2.out 2
 have z3 := frz K2.out 3
 have z4 := frz K2.out 4
 go_wp2
 refine bodyPost_ret (v := .tuple #[.agg #[.slice (some ⟨w.heap.size + 1, 0, none⟩) 1 1, .slice none 0 0, .int .u64 8589934592, .int .i64 0, .int .i64 0], .bool m]) (by simp [results, Tryz.results122, go_sem, hs0, r0, r1, r2, r3, r4]) rfl ?_
 have := HN.out
 refine ⟨_, _, 8589934592, 0, 0, m, [127], [], rfl, ?_, ?_, by omega, ?_, ?_, ?_, ?_⟩
 ·exact IR.one (t := 3) (x := 127) (blk5s K3.out (by omega) _ _ _ _ _)
 ·exact IR.nil _
 ·intro hf
  rw [HF.out] at hf
  cases m with
  | false => exact .inl rfl
  | true => exact .inr (by simp at hf; omega)
 ·intro x hf
  rw [HF.out] at hf
  cases m with
  | false => simp at hf
  | true =>
   simp at hf
   exact ⟨rfl, by omega, hf.2.symm, rfl, rfl⟩
 ·exact fun _ => ⟨NewV.at (by have := B1.out.size; omega), NewV.nil _⟩
 ·exact (below5 B1.out (Nat.le_refl _) _ _ _ _ _)

set_option maxRecDepth 100000 in
set_option maxHeartbeats 1000000 in
theorem memory_63 (m : Bool) (n : Nat) (hn : n < 18446744073709551616) (w : World) : Calls Tryz.prog 122 #[.int .i64 63, .bool m] w (ShP true (memF m 63 n) n 0 0 w) := by
 have ha : acc 63 = none := by kernel_rfl
 have HT := Lib.hid (show accTuple 63 = .tuple #[.int .i64 0, .int .i64 0, .bool false, .bool false] by simp [accTuple, ha])
 have HF := Lib.hid (show memF m 63 n = if m = false then none else if n = 0 then some ([], [127]) else none by simp [memF, ha])
 clear ha
 have HN := Lib.hid hn
 clear hn
 go_enter Tryz.func122, Tryz.ntmps122
 go_wp2_with fail
 have B0 := Lib.hid (show Below w.heap.size w ((w.alloc (.cells #[.slice none 0 0, .slice none 0 0, .int .u64 0, .int .i64 0, .int .i64 0] 148)).alloc (.cells #[.int .i64 127] 3)) from ((Below.refl _ _).alloc (Nat.le_refl _) _).alloc (by simp) _)
 have K0 := Lib.hid ((Blk.new w 148 #[.slice none 0 0, .slice none 0 0, .int .u64 0, .int .i64 0, .int .i64 0]).alloc (.cells #[.int .i64 127] 3))
 have K1 := Lib.hid (Blk.newAt (w.alloc (.cells #[.slice none 0 0, .slice none 0 0, .int .u64 0, .int .i64 0, .int .i64 0] 148)) (N := w.heap.size + 1) 3 #[.int .i64 127] (by simp))
 refine (Access_any 63 _).mono ?_
 rintro e w1 ⟨rfl, hb1⟩
 rw [HT.out]
 have B1 := Lib.hid (B0.out.trans (hb1.mono B0.out.size))
 have K2 := Lib.hid (K0.out.below hb1 K0.out.lt)
 have K3 := Lib.hid (K1.out.below hb1 K1.out.lt)
 clear hb1
 have hs0 := K2.out.lt
 have hs1 := K3.out.lt
 obtain ⟨r0, r1, r2, r3, r4⟩ := blk5 K2.out
 have z0 := frz K2.out 0
 have z1 := frz K2.out 1
 have z2 := frz K2.out 2
 have z3 := frz K2.out 3
 have z4 := frz K2.out 4
 go_wp2
 refine bodyPost_ret (v := .tuple #[.agg #[.slice none 0 0, .slice (some ⟨w.heap.size + 1, 0, none⟩) 1 1, .int .u64 0, .int .i64 0, .int .i64 0], .bool m]) (by simp [results, Tryz.results122, go_sem, hs0, r0, r1, r2, r3, r4]) rfl ?_
 have := HN.out
 refine ⟨_, _, 0, 0, 0, m, [], [127], rfl, ?_, ?_, by omega, ?_, ?_, ?_, ?_⟩
 ·exact IR.nil _
 ·exact IR.one (t := 3) (x := 127) (blk5s K3.out (by omega) _ _ _ _ _)
 ·intro hf
  rw [HF.out] at hf
  cases m with
  | false => exact .inl rfl
  | true => exact .inr (by simp at hf; omega)
 ·intro x hf
  rw [HF.out] at hf
  cases m with
  | false => simp at hf
  | true =>
   simp at hf
   exact ⟨rfl, by omega, hf.2.symm, rfl, rfl⟩
 ·exact fun _ => ⟨NewV.nil _, NewV.at (by have := B1.out.size; omega)⟩
 ·exact (below5 B1.out (Nat.le_refl _) _ _ _ _ _)

set_option maxRecDepth 100000 in
set_option maxHeartbeats 1000000 in
theorem memory_64 (m : Bool) (n : Nat) (hn : n < 18446744073709551616) (w : World) : Calls Tryz.prog 122 #[.int .i64 64, .bool m] w (ShP true (memF m 64 n) n 0 0 w) := by
 have ha : acc 64 = none := by kernel_rfl
 have HT := Lib.hid (show accTuple 64 = .tuple #[.int .i64 0, .int .i64 0, .bool false, .bool false] by simp [accTuple, ha])
 have HF := Lib.hid (show memF m 64 n = if m = false then none else if n = 0 then some ([127], [127]) else none by simp [memF, ha])
 clear ha
 have HN := Lib.hid hn
 clear hn
 go_enter Tryz.func122, Tryz.ntmps122
 go_wp2_with fail
 have B0 := Lib.hid (show Below w.heap.size w ((w.alloc (.cells #[.slice none 0 0, .slice none 0 0, .int .u64 0, .int .i64 0, .int .i64 0] 148)).alloc (.cells #[.int .i64 127] 3)) from ((Below.refl _ _).alloc (Nat.le_refl _) _).alloc (by simp) _)
 have K0 := Lib.hid ((Blk.new w 148 #[.slice none 0 0, .slice none 0 0, .int .u64 0, .int .i64 0, .int .i64 0]).alloc (.cells #[.int .i64 127] 3))
 have K1 := Lib.hid (Blk.newAt (w.alloc (.cells #[.slice none 0 0, .slice none 0 0, .int .u64 0, .int .i64 0, .int .i64 0] 148)) (N := w.heap.size + 1) 3 #[.int .i64 127] (by simp))
 refine (Access_any 64 _).mono ?_
 rintro e w1 ⟨rfl, hb1⟩
 rw [HT.out]
 have B1 := Lib.hid (B0.out.trans (hb1.mono B0.out.size))
 have K2 := Lib.hid (K0.out.below hb1 K0.out.lt)
 have K3 := Lib.hid (K1.out.below hb1 K1.out.lt)
 clear hb1
 have hs0 := K2.out.lt
 have hs1 := K3.out.lt
 obtain ⟨r0, r1, r2, r3, r4⟩ := blk5 K2.out
 have z0 := frz K2.out 0
 have z1 := frz K2.out 1
 have z2 := frz K2.out 2
 have z3 := frz K2.out 3
 have z4 := frz K2.out 4
 go_wp2
 refine bodyPost_ret (v := .tuple #[.agg #[.slice (some ⟨w.heap.size + 1, 0, none⟩) 1 1, .slice (some ⟨w.heap.size + 1, 0, none⟩) 1 1, .int .u64 0, .int .i64 0, .int .i64 0], .bool m]) (by simp [results, Tryz.results122, go_sem, hs0, r0, r1, r2, r3, r4]) rfl ?_
 have := HN.out
 refine ⟨_, _, 0, 0, 0, m, [127], [127], rfl, ?_, ?_, by omega, ?_, ?_, ?_, ?_⟩
 ·exact IR.one (t := 3) (x := 127) (blk5s K3.out (by omega) _ _ _ _ _)
 ·exact IR.one (t := 3) (x := 127) (blk5s K3.out (by omega) _ _ _ _ _)
 ·intro hf
  rw [HF.out] at hf
  cases m with
  | false => exact .inl rfl
  | true => exact .inr (by simp at hf; omega)
 ·intro x hf
  rw [HF.out] at hf
  cases m with
  | false => simp at hf
  | true =>
   simp at hf
   exact ⟨rfl, by omega, hf.2.symm, rfl, rfl⟩
 ·exact fun _ => ⟨NewV.at (by have := B1.out.size; omega), NewV.at (by have := B1.out.size; omega)⟩
 ·exact (below5 B1.out (Nat.le_refl _) _ _ _ _ _)

set_option maxRecDepth 100000 in
set_option maxHeartbeats 1000000 in
theorem memory_store (op k wd : Int) (sg : Bool) (ha : acc op = some (k, wd, true, sg)) (m : Bool) (n : Nat) (hn : n < 18446744073709551616) (w : World) : Calls Tryz.prog 122 #[.int .i64 op, .bool m] w (ShP true (memF m op n) n 0 0 w) := by
 have HT := Lib.hid (show accTuple op = .tuple #[.int .i64 k, .int .i64 wd, .bool true, .bool true] by simp [accTuple, ha])
 have hb := (acc_bounds ha).2.2
 have HF := Lib.hid (show memF m op n = if m = false then none else if n ≤ 4294967295 then some ([127, k], []) else none by simp only [memF, ha]; rw [if_neg (show ¬ op = 257 by omega)]; rfl)
 have g0 : (op == 257) = false := by simp; omega
 have g1 : (op == 63) = false := by simp; omega
 have g2 : (op == 64) = false := by simp; omega
 clear ha hb
 have HN := Lib.hid hn
 clear hn
 go_enter Tryz.func122, Tryz.ntmps122
 go_wp2_with fail
 have B0 := Lib.hid (show Below w.heap.size w ((w.alloc (.cells #[.slice none 0 0, .slice none 0 0, .int .u64 0, .int .i64 0, .int .i64 0] 148)).alloc (.cells #[.int .i64 127] 3)) from ((Below.refl _ _).alloc (Nat.le_refl _) _).alloc (by simp) _)
 have K0 := Lib.hid ((Blk.new w 148 #[.slice none 0 0, .slice none 0 0, .int .u64 0, .int .i64 0, .int .i64 0]).alloc (.cells #[.int .i64 127] 3))
 have K1 := Lib.hid (Blk.newAt (w.alloc (.cells #[.slice none 0 0, .slice none 0 0, .int .u64 0, .int .i64 0, .int .i64 0] 148)) (N := w.heap.size + 1) 3 #[.int .i64 127] (by simp))
 refine (Access_any op _).mono ?_
 rintro e w1 ⟨rfl, hb1⟩
 rw [HT.out]
 have B1 := Lib.hid (B0.out.trans (hb1.mono B0.out.size))
 have K2 := Lib.hid (K0.out.below hb1 K0.out.lt)
 have K3 := Lib.hid (K1.out.below hb1 K1.out.lt)
 clear hb1
 have hs0 := K2.out.lt
 have hs1 := K3.out.lt
 obtain ⟨r0, r1, r2, r3, r4⟩ := blk5 K2.out
 have z0 := frz K2.out 0
 have z1 := frz K2.out 1
 have z2 := frz K2.out 2
 have z3 := frz K2.out 3
 have z4 := frz K2.out 4
 go_wp2
 refine bodyPost_ret (v := .tuple #[.agg #[.slice (some ⟨w1.heap.size, 0, none⟩) 2 2, .slice none 0 0, .int .u64 4294967295, .int .i64 0, .int .i64 0], .bool m]) (by simp [results, Tryz.results122, go_sem, hs0, r0, r1, r2, r3, r4]) rfl ?_
 have := HN.out
 refine ⟨_, _, 4294967295, 0, 0, m, [127, k], [], rfl, ?_, ?_, by omega, ?_, ?_, ?_, ?_⟩
 ·exact IR.two (t := 3) (x := 127) (y := k) (Blk.newAt _ _ _ (by simp))
 ·exact IR.nil _
 ·intro hf
  rw [HF.out] at hf
  cases m with
  | false => exact .inl rfl
  | true => exact .inr (by simp at hf; omega)
 ·intro x hf
  rw [HF.out] at hf
  cases m with
  | false => simp at hf
  | true =>
   simp at hf
   exact ⟨rfl, by omega, hf.2.symm, rfl, rfl⟩
 ·exact fun _ => ⟨NewV.at (by have := B1.out.size; omega), NewV.nil _⟩
 ·exact (below5 B1.out (Nat.le_refl _) _ _ _ _ _).alloc (by simp; have := B1.out.size; omega) _

set_option maxRecDepth 100000 in
set_option maxHeartbeats 1000000 in
theorem memory_load (op k wd : Int) (sg : Bool) (ha : acc op = some (k, wd, false, sg)) (m : Bool) (n : Nat) (hn : n < 18446744073709551616) (w : World) : Calls Tryz.prog 122 #[.int .i64 op, .bool m] w (ShP true (memF m op n) n 0 0 w) := by
 have HT := Lib.hid (show accTuple op = .tuple #[.int .i64 k, .int .i64 wd, .bool false, .bool true] by simp [accTuple, ha])
 have hb := (acc_bounds ha).2.2
 have HF := Lib.hid (show memF m op n = if m = false then none else if n ≤ 4294967295 then some ([127], [k]) else none by simp only [memF, ha]; rw [if_neg (show ¬ op = 257 by omega)]; rfl)
 have g0 : (op == 257) = false := by simp; omega
 have g1 : (op == 63) = false := by simp; omega
 have g2 : (op == 64) = false := by simp; omega
 clear ha hb
 have HN := Lib.hid hn
 clear hn
 go_enter Tryz.func122, Tryz.ntmps122
 go_wp2_with fail
 have B0 := Lib.hid (show Below w.heap.size w ((w.alloc (.cells #[.slice none 0 0, .slice none 0 0, .int .u64 0, .int .i64 0, .int .i64 0] 148)).alloc (.cells #[.int .i64 127] 3)) from ((Below.refl _ _).alloc (Nat.le_refl _) _).alloc (by simp) _)
 have K0 := Lib.hid ((Blk.new w 148 #[.slice none 0 0, .slice none 0 0, .int .u64 0, .int .i64 0, .int .i64 0]).alloc (.cells #[.int .i64 127] 3))
 have K1 := Lib.hid (Blk.newAt (w.alloc (.cells #[.slice none 0 0, .slice none 0 0, .int .u64 0, .int .i64 0, .int .i64 0] 148)) (N := w.heap.size + 1) 3 #[.int .i64 127] (by simp))
 refine (Access_any op _).mono ?_
 rintro e w1 ⟨rfl, hb1⟩
 rw [HT.out]
 have B1 := Lib.hid (B0.out.trans (hb1.mono B0.out.size))
 have K2 := Lib.hid (K0.out.below hb1 K0.out.lt)
 have K3 := Lib.hid (K1.out.below hb1 K1.out.lt)
 clear hb1
 have hs0 := K2.out.lt
 have hs1 := K3.out.lt
 obtain ⟨r0, r1, r2, r3, r4⟩ := blk5 K2.out
 have z0 := frz K2.out 0
 have z1 := frz K2.out 1
 have z2 := frz K2.out 2
 have z3 := frz K2.out 3
 have z4 := frz K2.out 4
 go_wp2
 refine bodyPost_ret (v := .tuple #[.agg #[.slice (some ⟨w.heap.size + 1, 0, none⟩) 1 1, .slice (some ⟨w1.heap.size, 0, none⟩) 1 1, .int .u64 4294967295, .int .i64 0, .int .i64 0], .bool m]) (by simp [results, Tryz.results122, go_sem, hs0, r0, r1, r2, r3, r4]) rfl ?_
 have := HN.out
 refine ⟨_, _, 4294967295, 0, 0, m, [127], [k], rfl, ?_, ?_, by omega, ?_, ?_, ?_, ?_⟩
 ·exact IR.one (t := 3) (x := 127) ((blk5s K3.out (by omega) _ _ _ _ _).alloc _)
 ·exact IR.one (t := 3) (x := k) (Blk.newAt _ _ _ (by simp))
 ·intro hf
  rw [HF.out] at hf
  cases m with
  | false => exact .inl rfl
  | true => exact .inr (by simp at hf; omega)
 ·intro x hf
  rw [HF.out] at hf
  cases m with
  | false => simp at hf
  | true =>
   simp at hf
   exact ⟨rfl, by omega, hf.2.symm, rfl, rfl⟩
 ·exact fun _ => ⟨NewV.at (by have := B1.out.size; omega), NewV.at (by have := B1.out.size; omega)⟩
 ·exact (below5 B1.out (Nat.le_refl _) _ _ _ _ _).alloc (by simp; have := B1.out.size; omega) _

set_option maxRecDepth 100000 in
set_option maxHeartbeats 1000000 in
theorem memory_none (op : Int) (ha : acc op = none) (g0 : (op == 257) = false) (g1 : (op == 63) = false) (g2 : (op == 64) = false) (m : Bool) (n : Nat) (hn : n < 18446744073709551616) (w : World) : Calls Tryz.prog 122 #[.int .i64 op, .bool m] w (ShP true (memF m op n) n 0 0 w) := by
 have HT := Lib.hid (show accTuple op = .tuple #[.int .i64 0, .int .i64 0, .bool false, .bool false] by simp [accTuple, ha])
 have HF := Lib.hid (show memF m op n = none by
  simp at g0 g1 g2
  simp only [memF, ha, g0, g1, g2, if_false]
  cases m <;> rfl)
 clear ha
 have HN := Lib.hid hn
 clear hn
 go_enter Tryz.func122, Tryz.ntmps122
 go_wp2_with fail
 have B0 := Lib.hid (show Below w.heap.size w ((w.alloc (.cells #[.slice none 0 0, .slice none 0 0, .int .u64 0, .int .i64 0, .int .i64 0] 148)).alloc (.cells #[.int .i64 127] 3)) from ((Below.refl _ _).alloc (Nat.le_refl _) _).alloc (by simp) _)
 have K0 := Lib.hid ((Blk.new w 148 #[.slice none 0 0, .slice none 0 0, .int .u64 0, .int .i64 0, .int .i64 0]).alloc (.cells #[.int .i64 127] 3))
 have K1 := Lib.hid (Blk.newAt (w.alloc (.cells #[.slice none 0 0, .slice none 0 0, .int .u64 0, .int .i64 0, .int .i64 0] 148)) (N := w.heap.size + 1) 3 #[.int .i64 127] (by simp))
 refine (Access_any op _).mono ?_
 rintro e w1 ⟨rfl, hb1⟩
 rw [HT.out]
 have B1 := Lib.hid (B0.out.trans (hb1.mono B0.out.size))
 have K2 := Lib.hid (K0.out.below hb1 K0.out.lt)
 have K3 := Lib.hid (K1.out.below hb1 K1.out.lt)
 clear hb1
 have hs0 := K2.out.lt
 have hs1 := K3.out.lt
 obtain ⟨r0, r1, r2, r3, r4⟩ := blk5 K2.out
 have z0 := frz K2.out 0
 have z1 := frz K2.out 1
 have z2 := frz K2.out 2
 have z3 := frz K2.out 3
 have z4 := frz K2.out 4
 go_wp2
 refine bodyPost_ret (v := .tuple #[.agg #[.slice none 0 0, .slice none 0 0, .int .u64 0, .int .i64 0, .int .i64 0], .bool false]) (by simp [results, Tryz.results122, go_sem, hs0, r0, r1, r2, r3, r4]) rfl ?_
 exact ShP.no HF.out (below5 B1.out (Nat.le_refl _) _ _ _ _ _)

theorem memory_any (op : Int) (m : Bool) (n : Nat) (hn : n < 18446744073709551616) (w : World) : Calls Tryz.prog 122 #[.int .i64 op, .bool m] w (ShP true (memF m op n) n 0 0 w) := by
 cases ha : acc op with
 | some r =>
  obtain ⟨k, wd, st, sg⟩ := r
  cases st with
  | true => exact memory_store op k wd sg ha m n hn w
  | false => exact memory_load op k wd sg ha m n hn w
 | none =>
  by_cases h0 : op = 257
  ·subst h0; exact memory_257 m n hn w
  by_cases h1 : op = 63
  ·subst h1; exact memory_63 m n hn w
  by_cases h2 : op = 64
  ·subst h2; exact memory_64 m n hn w
  exact memory_none op ha (by simpa using h0) (by simpa using h1) (by simpa using h2) m n hn w
end Go.Proofs.YtgmapikcpnffhaaGreat
namespace Go.Proofs.YtgmapikcpnffhaaGreat
open Go.RowKit Go.Bk Go.Bk.Liv Go.Bk.Num Go.Bk.Mem
set_option linter.unusedVariables false
set_option linter.unusedSimpArgs false

theorem al4 (w : World) (a b c d : Obj) : Below w.heap.size w ((((w.alloc a).alloc b).alloc c).alloc d) := ((((Below.refl _ _).alloc (Nat.le_refl _) _).alloc (by simp) _).alloc (by simp; omega) _).alloc (by simp; omega) _
theorem al5 (w : World) (a b c d e : Obj) : Below w.heap.size w (((((w.alloc a).alloc b).alloc c).alloc d).alloc e) := (al4 w a b c d).alloc (by simp; omega) _
theorem al6 (w : World) (a b c d e f : Obj) : Below w.heap.size w ((((((w.alloc a).alloc b).alloc c).alloc d).alloc e).alloc f) := (al5 w a b c d e).alloc (by simp; omega) _
theorem at3 (w : World) (a b : Obj) (t : TypeId) (cs : Array Value) : Blk (((w.alloc a).alloc b).alloc (.cells cs t)) (w.heap.size + 1 + 1) t cs := Blk.newAt _ _ _ (by simp)
theorem at4 (w : World) (a b c : Obj) (t : TypeId) (cs : Array Value) : Blk ((((w.alloc a).alloc b).alloc c).alloc (.cells cs t)) (w.heap.size + 1 + 1 + 1) t cs := Blk.newAt _ _ _ (by simp)
theorem at5 (w : World) (a b c d : Obj) (t : TypeId) (cs : Array Value) : Blk (((((w.alloc a).alloc b).alloc c).alloc d).alloc (.cells cs t)) (w.heap.size + 1 + 1 + 1 + 1) t cs := Blk.newAt _ _ _ (by simp)
theorem at6 (w : World) (a b c d e : Obj) (t : TypeId) (cs : Array Value) : Blk ((((((w.alloc a).alloc b).alloc c).alloc d).alloc e).alloc (.cells cs t)) (w.heap.size + 1 + 1 + 1 + 1 + 1) t cs := Blk.newAt _ _ _ (by simp)

set_option maxRecDepth 100000 in
set_option maxHeartbeats 1000000 in
theorem shapeOf_256 (e : EnvD) (s : SigD) (ve vs : Value) (n : Nat) (hn : n < 18446744073709551616) (w : World) (he : EnvV w ve e) (hs : SigV w vs s) : Calls Tryz.prog 101 #[ve, vs, .int .i64 256, .int .u64 (n : Int)] w (ShP false (formV e s 256 n) n (toLo 256) (toHi 256) w) := by
 obtain ⟨a, b, d, rfl, h1, h2, h3⟩ := he
 obtain ⟨As, cs, rfl, _⟩ := h1.len
 obtain ⟨Ag, cg, rfl⟩ := h2.shape
 have hm := h3
 obtain ⟨Am, cm, rfl, _⟩ := h3
 obtain ⟨p, q, rfl, h4, h5⟩ := hs
 obtain ⟨Ap, cp, rfl⟩ := h4.shape
 obtain ⟨Aq, cq, rfl⟩ := h5.shape
 have HO := Lib.hid h5.ir
 have HF := Lib.hid (show formV e s 256 n = some ([], [0]) by simp [formV])
 have HN := Lib.hid hn
 clear h1 h2 h4 h5 hn hm
 go_enter Tryz.func101, Tryz.ntmps101
 go_wp2
 refine bodyPost_ret (v := .tuple #[.agg #[.slice none 0 0, .slice (some ⟨w.heap.size + 1 + 1 + 1 + 1, 0, none⟩) 1 1, .int .u64 18446744073709551615, .int .i64 0, .int .i64 0], .bool true]) (by simp [results, Tryz.results101, go_sem]) rfl ?_
 have := HN.out
 refine ⟨_, _, 18446744073709551615, 0, 0, true, [], [0], rfl, ?_, ?_, by omega, ?_, ?_, (fun h => by cases h), ?_⟩
 ·exact IR.nil _
 ·exact IR.one (x := 0) (at5 _ _ _ _ _ _ _)
 ·intro hf
  rw [HF.out] at hf
  cases hf
 ·intro x hf
  rw [HF.out] at hf
  simp at hf
  exact ⟨rfl, by omega, hf.symm, by decide, by decide⟩
 ·exact al5 _ _ _ _ _ _ 

set_option maxRecDepth 100000 in
set_option maxHeartbeats 1000000 in
theorem shapeOf_272 (e : EnvD) (s : SigD) (ve vs : Value) (n : Nat) (hn : n < 18446744073709551616) (w : World) (he : EnvV w ve e) (hs : SigV w vs s) : Calls Tryz.prog 101 #[ve, vs, .int .i64 272, .int .u64 (n : Int)] w (ShP false (formV e s 272 n) n (toLo 272) (toHi 272) w) := by
 obtain ⟨a, b, d, rfl, h1, h2, h3⟩ := he
 obtain ⟨As, cs, rfl, _⟩ := h1.len
 obtain ⟨Ag, cg, rfl⟩ := h2.shape
 have hm := h3
 obtain ⟨Am, cm, rfl, _⟩ := h3
 obtain ⟨p, q, rfl, h4, h5⟩ := hs
 obtain ⟨Ap, cp, rfl⟩ := h4.shape
 obtain ⟨Aq, cq, rfl⟩ := h5.shape
 have HO := Lib.hid h5.ir
 have HF := Lib.hid (show formV e s 272 n = if n = 0 then some ([0], [0]) else none by simp [formV])
 have HN := Lib.hid hn
 clear h1 h2 h4 h5 hn hm
 go_enter Tryz.func101, Tryz.ntmps101
 go_wp2
 refine bodyPost_ret (v := .tuple #[.agg #[.slice (some ⟨w.heap.size + 1 + 1 + 1 + 1, 0, none⟩) 1 1, .slice (some ⟨w.heap.size + 1 + 1 + 1 + 1 + 1, 0, none⟩) 1 1, .int .u64 0, .int .i64 0, .int .i64 0], .bool true]) (by simp [results, Tryz.results101, go_sem]) rfl ?_
 have := HN.out
 refine ⟨_, _, 0, 0, 0, true, [0], [0], rfl, ?_, ?_, by omega, ?_, ?_, (fun h => by cases h), ?_⟩
 ·exact IR.one (x := 0) ((at5 _ _ _ _ _ _ _).alloc _)
 ·exact IR.one (x := 0) (at6 _ _ _ _ _ _ _ _)
 ·intro hf
  rw [HF.out] at hf
  exact .inr (by simp at hf; omega)
 ·intro x hf
  rw [HF.out] at hf
  simp at hf
  exact ⟨rfl, by omega, hf.2.symm, by decide, by decide⟩
 ·exact al6 _ _ _ _ _ _ _ 

set_option maxRecDepth 100000 in
set_option maxHeartbeats 1000000 in
theorem shapeOf_273 (e : EnvD) (s : SigD) (ve vs : Value) (n : Nat) (hn : n < 18446744073709551616) (w : World) (he : EnvV w ve e) (hs : SigV w vs s) : Calls Tryz.prog 101 #[ve, vs, .int .i64 273, .int .u64 (n : Int)] w (ShP false (formV e s 273 n) n (toLo 273) (toHi 273) w) := by
 obtain ⟨a, b, d, rfl, h1, h2, h3⟩ := he
 obtain ⟨As, cs, rfl, _⟩ := h1.len
 obtain ⟨Ag, cg, rfl⟩ := h2.shape
 have hm := h3
 obtain ⟨Am, cm, rfl, _⟩ := h3
 obtain ⟨p, q, rfl, h4, h5⟩ := hs
 obtain ⟨Ap, cp, rfl⟩ := h4.shape
 obtain ⟨Aq, cq, rfl⟩ := h5.shape
 have HO := Lib.hid h5.ir
 have HF := Lib.hid (show formV e s 273 n = if n = 0 then some ([], []) else none by simp [formV])
 have HN := Lib.hid hn
 clear h1 h2 h4 h5 hn hm
 go_enter Tryz.func101, Tryz.ntmps101
 go_wp2
 refine bodyPost_ret (v := .tuple #[.agg #[.slice none 0 0, .slice none 0 0, .int .u64 0, .int .i64 1, .int .i64 1], .bool true]) (by simp [results, Tryz.results101, go_sem]) rfl ?_
 have := HN.out
 refine ⟨_, _, 0, 1, 1, true, [], [], rfl, ?_, ?_, by omega, ?_, ?_, (fun h => by cases h), ?_⟩
 ·exact IR.nil _
 ·exact IR.nil _
 ·intro hf
  rw [HF.out] at hf
  exact .inr (by simp at hf; omega)
 ·intro x hf
  rw [HF.out] at hf
  simp at hf
  exact ⟨rfl, by omega, hf.2.symm, by decide, by decide⟩
 ·exact al4 _ _ _ _ _ 

set_option maxRecDepth 100000 in
set_option maxHeartbeats 1000000 in
theorem shapeOf_274 (e : EnvD) (s : SigD) (ve vs : Value) (n : Nat) (hn : n < 18446744073709551616) (w : World) (he : EnvV w ve e) (hs : SigV w vs s) : Calls Tryz.prog 101 #[ve, vs, .int .i64 274, .int .u64 (n : Int)] w (ShP false (formV e s 274 n) n (toLo 274) (toHi 274) w) := by
 obtain ⟨a, b, d, rfl, h1, h2, h3⟩ := he
 obtain ⟨As, cs, rfl, _⟩ := h1.len
 obtain ⟨Ag, cg, rfl⟩ := h2.shape
 have hm := h3
 obtain ⟨Am, cm, rfl, _⟩ := h3
 obtain ⟨p, q, rfl, h4, h5⟩ := hs
 obtain ⟨Ap, cp, rfl⟩ := h4.shape
 obtain ⟨Aq, cq, rfl⟩ := h5.shape
 have HO := Lib.hid h5.ir
 have HF := Lib.hid (show formV e s 274 n = if n = 0 then some ([127], []) else none by simp [formV])
 have HN := Lib.hid hn
 clear h1 h2 h4 h5 hn hm
 go_enter Tryz.func101, Tryz.ntmps101
 go_wp2
 refine bodyPost_ret (v := .tuple #[.agg #[.slice (some ⟨w.heap.size + 1 + 1 + 1, 0, none⟩) 1 1, .slice none 0 0, .int .u64 0, .int .i64 1, .int .i64 1], .bool true]) (by simp [results, Tryz.results101, go_sem]) rfl ?_
 have := HN.out
 refine ⟨_, _, 0, 1, 1, true, [127], [], rfl, ?_, ?_, by omega, ?_, ?_, (fun h => by cases h), ?_⟩
 ·exact IR.one (x := 127) (at4 _ _ _ _ _ _)
 ·exact IR.nil _
 ·intro hf
  rw [HF.out] at hf
  exact .inr (by simp at hf; omega)
 ·intro x hf
  rw [HF.out] at hf
  simp at hf
  exact ⟨rfl, by omega, hf.2.symm, by decide, by decide⟩
 ·exact al4 _ _ _ _ _ 

set_option maxRecDepth 100000 in
set_option maxHeartbeats 1000000 in
theorem shapeOf_275 (e : EnvD) (s : SigD) (ve vs : Value) (n : Nat) (hn : n < 18446744073709551616) (w : World) (he : EnvV w ve e) (hs : SigV w vs s) : Calls Tryz.prog 101 #[ve, vs, .int .i64 275, .int .u64 (n : Int)] w (ShP false (formV e s 275 n) n (toLo 275) (toHi 275) w) := by
 obtain ⟨a, b, d, rfl, h1, h2, h3⟩ := he
 obtain ⟨As, cs, rfl, _⟩ := h1.len
 obtain ⟨Ag, cg, rfl⟩ := h2.shape
 have hm := h3
 obtain ⟨Am, cm, rfl, _⟩ := h3
 obtain ⟨p, q, rfl, h4, h5⟩ := hs
 obtain ⟨Ap, cp, rfl⟩ := h4.shape
 obtain ⟨Aq, cq, rfl⟩ := h5.shape
 have HO := Lib.hid h5.ir
 have HF := Lib.hid (show formV e s 275 n = if n = 0 then some ([127], []) else none by simp [formV])
 have HN := Lib.hid hn
 clear h1 h2 h4 h5 hn hm
 go_enter Tryz.func101, Tryz.ntmps101
 go_wp2
 refine bodyPost_ret (v := .tuple #[.agg #[.slice (some ⟨w.heap.size + 1 + 1 + 1, 0, none⟩) 1 1, .slice none 0 0, .int .u64 0, .int .i64 1, .int .i64 65], .bool true]) (by simp [results, Tryz.results101, go_sem]) rfl ?_
 have := HN.out
 refine ⟨_, _, 0, 1, 65, true, [127], [], rfl, ?_, ?_, by omega, ?_, ?_, (fun h => by cases h), ?_⟩
 ·exact IR.one (x := 127) (at4 _ _ _ _ _ _)
 ·exact IR.nil _
 ·intro hf
  rw [HF.out] at hf
  exact .inr (by simp at hf; omega)
 ·intro x hf
  rw [HF.out] at hf
  simp at hf
  exact ⟨rfl, by omega, hf.2.symm, by decide, by decide⟩
 ·exact al4 _ _ _ _ _ 

set_option maxRecDepth 100000 in
set_option maxHeartbeats 1000000 in
theorem shapeOf_276 (e : EnvD) (s : SigD) (ve vs : Value) (n : Nat) (hn : n < 18446744073709551616) (w : World) (he : EnvV w ve e) (hs : SigV w vs s) : Calls Tryz.prog 101 #[ve, vs, .int .i64 276, .int .u64 (n : Int)] w (ShP false (formV e s 276 n) n (toLo 276) (toHi 276) w) := by
 obtain ⟨a, b, d, rfl, h1, h2, h3⟩ := he
 obtain ⟨As, cs, rfl, _⟩ := h1.len
 obtain ⟨Ag, cg, rfl⟩ := h2.shape
 have hm := h3
 obtain ⟨Am, cm, rfl, _⟩ := h3
 obtain ⟨p, q, rfl, h4, h5⟩ := hs
 obtain ⟨Ap, cp, rfl⟩ := h4.shape
 obtain ⟨Aq, cq, rfl⟩ := h5.shape
 have HO := Lib.hid h5.ir
 have HF := Lib.hid (show formV e s 276 n = if n = 0 then some (s.out, []) else none by simp [formV])
 have HN := Lib.hid hn
 clear h1 h2 h4 h5 hn hm
 go_enter Tryz.func101, Tryz.ntmps101
 go_wp2
 refine bodyPost_ret (v := .tuple #[.agg #[.slice Aq s.out.length cq, .slice none 0 0, .int .u64 0, .int .i64 0, .int .i64 0], .bool true]) (by simp [results, Tryz.results101, go_sem]) rfl ?_
 have := HN.out
 refine ⟨_, _, 0, 0, 0, true, s.out, [], rfl, ?_, ?_, by omega, ?_, ?_, (fun h => by cases h), ?_⟩
 ·exact HO.out.below (al4 _ _ _ _ _) (Nat.le_refl _)
 ·exact IR.nil _
 ·intro hf
  rw [HF.out] at hf
  exact .inr (by simp at hf; omega)
 ·intro x hf
  rw [HF.out] at hf
  simp at hf
  exact ⟨rfl, by omega, hf.2.symm, by decide, by decide⟩
 ·exact al4 _ _ _ _ _ 

set_option maxRecDepth 100000 in
set_option maxHeartbeats 1000000 in
theorem shapeOf_277 (e : EnvD) (s : SigD) (ve vs : Value) (n : Nat) (hn : n < 18446744073709551616) (w : World) (he : EnvV w ve e) (hs : SigV w vs s) : Calls Tryz.prog 101 #[ve, vs, .int .i64 277, .int .u64 (n : Int)] w (ShP false (formV e s 277 n) n (toLo 277) (toHi 277) w) := by
 obtain ⟨a, b, d, rfl, h1, h2, h3⟩ := he
 obtain ⟨As, cs, rfl, _⟩ := h1.len
 obtain ⟨Ag, cg, rfl⟩ := h2.shape
 have hm := h3
 obtain ⟨Am, cm, rfl, _⟩ := h3
 obtain ⟨p, q, rfl, h4, h5⟩ := hs
 obtain ⟨Ap, cp, rfl⟩ := h4.shape
 obtain ⟨Aq, cq, rfl⟩ := h5.shape
 have HO := Lib.hid h5.ir
 have HF := Lib.hid (show formV e s 277 n = if n = 0 then some ([], []) else none by simp [formV])
 have HN := Lib.hid hn
 clear h1 h2 h4 h5 hn hm
 go_enter Tryz.func101, Tryz.ntmps101
 go_wp2
 refine bodyPost_ret (v := .tuple #[.agg #[.slice none 0 0, .slice none 0 0, .int .u64 0, .int .i64 0, .int .i64 0], .bool true]) (by simp [results, Tryz.results101, go_sem]) rfl ?_
 have := HN.out
 refine ⟨_, _, 0, 0, 0, true, [], [], rfl, ?_, ?_, by omega, ?_, ?_, (fun h => by cases h), ?_⟩
 ·exact IR.nil _
 ·exact IR.nil _
 ·intro hf
  rw [HF.out] at hf
  exact .inr (by simp at hf; omega)
 ·intro x hf
  rw [HF.out] at hf
  simp at hf
  exact ⟨rfl, by omega, hf.2.symm, by decide, by decide⟩
 ·exact al4 _ _ _ _ _ 

set_option maxRecDepth 100000 in
set_option maxHeartbeats 1000000 in
theorem shapeOf_258 (e : EnvD) (s : SigD) (ve vs : Value) (n : Nat) (hn : n < 18446744073709551616) (w : World) (he : EnvV w ve e) (hs : SigV w vs s) : Calls Tryz.prog 101 #[ve, vs, .int .i64 258, .int .u64 (n : Int)] w (ShP false (formV e s 258 n) n (toLo 258) (toHi 258) w) := by
 obtain ⟨a, b, d, rfl, h1, h2, h3⟩ := he
 obtain ⟨As, cs, rfl, _⟩ := h1.len
 obtain ⟨Ag, cg, rfl⟩ := h2.shape
 have hm := h3
 obtain ⟨Am, cm, rfl, _⟩ := h3
 obtain ⟨p, q, rfl, h4, h5⟩ := hs
 obtain ⟨Ap, cp, rfl⟩ := h4.shape
 obtain ⟨Aq, cq, rfl⟩ := h5.shape
 have HO := Lib.hid h5.ir
 have HF := Lib.hid (show formV e s 258 n = if n = 0 then some ([], []) else none by simp [formV])
 have HN := Lib.hid hn
 clear h1 h2 h4 h5 hn hm
 go_enter Tryz.func101, Tryz.ntmps101
 go_wp2
 refine bodyPost_ret (v := .tuple #[.agg #[.slice none 0 0, .slice none 0 0, .int .u64 0, .int .i64 0, .int .i64 0], .bool true]) (by simp [results, Tryz.results101, go_sem]) rfl ?_
 have := HN.out
 refine ⟨_, _, 0, 0, 0, true, [], [], rfl, ?_, ?_, by omega, ?_, ?_, (fun h => by cases h), ?_⟩
 ·exact IR.nil _
 ·exact IR.nil _
 ·intro hf
  rw [HF.out] at hf
  exact .inr (by simp at hf; omega)
 ·intro x hf
  rw [HF.out] at hf
  simp at hf
  exact ⟨rfl, by omega, hf.2.symm, by decide, by decide⟩
 ·exact al4 _ _ _ _ _ 

set_option maxRecDepth 100000 in
set_option maxHeartbeats 1000000 in
theorem shapeOf_27 (e : EnvD) (s : SigD) (ve vs : Value) (n : Nat) (hn : n < 18446744073709551616) (w : World) (he : EnvV w ve e) (hs : SigV w vs s) : Calls Tryz.prog 101 #[ve, vs, .int .i64 27, .int .u64 (n : Int)] w (ShP false (formV e s 27 n) n (toLo 27) (toHi 27) w) := by
 obtain ⟨a, b, d, rfl, h1, h2, h3⟩ := he
 obtain ⟨As, cs, rfl, _⟩ := h1.len
 obtain ⟨Ag, cg, rfl⟩ := h2.shape
 have hm := h3
 obtain ⟨Am, cm, rfl, _⟩ := h3
 obtain ⟨p, q, rfl, h4, h5⟩ := hs
 obtain ⟨Ap, cp, rfl⟩ := h4.shape
 obtain ⟨Aq, cq, rfl⟩ := h5.shape
 have HO := Lib.hid h5.ir
 have HF := Lib.hid (show formV e s 27 n = if n = 0 then some ([0, 0, 127], [0]) else none by simp [formV])
 have HN := Lib.hid hn
 clear h1 h2 h4 h5 hn hm
 go_enter Tryz.func101, Tryz.ntmps101
 go_wp2
 refine bodyPost_ret (v := .tuple #[.agg #[.slice (some ⟨w.heap.size + 1 + 1 + 1 + 1, 0, none⟩) 3 3, .slice (some ⟨w.heap.size + 1 + 1 + 1 + 1 + 1, 0, none⟩) 1 1, .int .u64 0, .int .i64 0, .int .i64 0], .bool true]) (by simp [results, Tryz.results101, go_sem]) rfl ?_
 have := HN.out
 refine ⟨_, _, 0, 0, 0, true, [0, 0, 127], [0], rfl, ?_, ?_, by omega, ?_, ?_, (fun h => by cases h), ?_⟩
 ·exact IR.three (x := 0) (y := 0) (z := 127) ((at5 _ _ _ _ _ _ _).alloc _)
 ·exact IR.one (x := 0) (at6 _ _ _ _ _ _ _ _)
 ·intro hf
  rw [HF.out] at hf
  exact .inr (by simp at hf; omega)
 ·intro x hf
  rw [HF.out] at hf
  simp at hf
  exact ⟨rfl, by omega, hf.2.symm, by decide, by decide⟩
 ·exact al6 _ _ _ _ _ _ _ 

set_option maxRecDepth 100000 in
set_option maxHeartbeats 1000000 in
theorem shapeOf_16 (e : EnvD) (s : SigD) (ve vs : Value) (n : Nat) (hn : n < 18446744073709551616) (w : World) (he : EnvV w ve e) (hs : SigV w vs s) : Calls Tryz.prog 101 #[ve, vs, .int .i64 16, .int .u64 (n : Int)] w (ShP false (formV e s 16 n) n (toLo 16) (toHi 16) w) := by
 obtain ⟨a, b, d, rfl, h1, h2, h3⟩ := he
 obtain ⟨As, cs, rfl, _⟩ := h1.len
 obtain ⟨Ag, cg, rfl⟩ := h2.shape
 have hm := h3
 obtain ⟨Am, cm, rfl, _⟩ := h3
 obtain ⟨p, q, rfl, h4, h5⟩ := hs
 obtain ⟨Ap, cp, rfl⟩ := h4.shape
 obtain ⟨Aq, cq, rfl⟩ := h5.shape
 have HO := Lib.hid h5.ir
 have hl := h1.lenV
 by_cases hlt : n < e.sigs.length
 ·obtain ⟨x, hx⟩ : ∃ x, e.sigs[n]? = some x := ⟨_, List.getElem?_eq_getElem hlt⟩
  have hlt' : decide ((n : Int) < (e.sigs.length : Int)) = true := by simp; omega
  have hlt2 : (n : Int) < (e.sigs.length : Int) := by omega
  obtain ⟨gb, go, p, q, rfl, hgb, c0, c1, s0, s1⟩ := h1.sig hx
  obtain ⟨pA, pc, rfl⟩ := s0.shape
  obtain ⟨qA, qc, rfl⟩ := s1.shape
  have HF := Lib.hid (show formV e s 16 n = some (x.inn, x.out) by simp [formV, hx])
  have HN := Lib.hid hn
  have HI := Lib.hid s0.ir
  have HQ := Lib.hid s1.ir
  clear h1 h2 h4 h5 hn hm hx s0 s1
  go_enter Tryz.func101, Tryz.ntmps101
  have B4 := Lib.hid (al4 w (.cells #[.slice (some ⟨gb, go, none⟩) e.sigs.length cs, .int .i64 e.imports, .slice Ag e.globals.length cg, .slice Am e.muts.length cm, .bool e.mem] 26) (.cells #[.slice Ap s.inn.length cp, .slice Aq s.out.length cq] 28) (.cells #[.slice none 0 0, .slice none 0 0, .int .u64 0, .int .i64 0, .int .i64 0] 148) (.cells #[.int .i64 127] 3))
  have E0 := Lib.hid ((((Blk.new w 26 #[.slice (some ⟨gb, go, none⟩) e.sigs.length cs, .int .i64 e.imports, .slice Ag e.globals.length cg, .slice Am e.muts.length cm, .bool e.mem]).alloc (.cells #[.slice Ap s.inn.length cp, .slice Aq s.out.length cq] 28)).alloc (.cells #[.slice none 0 0, .slice none 0 0, .int .u64 0, .int .i64 0, .int .i64 0] 148)).alloc (.cells #[.int .i64 127] 3))
  have E2 := Lib.hid ((at3 w (.cells #[.slice (some ⟨gb, go, none⟩) e.sigs.length cs, .int .i64 e.imports, .slice Ag e.globals.length cg, .slice Am e.muts.length cm, .bool e.mem] 26) (.cells #[.slice Ap s.inn.length cp, .slice Aq s.out.length cq] 28) 148 #[.slice none 0 0, .slice none 0 0, .int .u64 0, .int .i64 0, .int .i64 0]).alloc (.cells #[.int .i64 127] 3))
  go_wp2_with fail
  generalize ((((w.alloc (.cells #[.slice (some ⟨gb, go, none⟩) e.sigs.length cs, .int .i64 e.imports, .slice Ag e.globals.length cg, .slice Am e.muts.length cm, .bool e.mem] 26)).alloc (.cells #[.slice Ap s.inn.length cp, .slice Aq s.out.length cq] 28)).alloc (.cells #[.slice none 0 0, .slice none 0 0, .int .u64 0, .int .i64 0, .int .i64 0] 148)).alloc (.cells #[.int .i64 127] 3)) = W4 at B4 E0 E2 ⊢
  have d0 := (B4.out.cell (p := ⟨gb, go + n * 2, none⟩) hgb).trans c0
  have d1 := (B4.out.cell (p := ⟨gb, go + n * 2 + 1, none⟩) hgb).trans c1
  have e0 := E0.out.cell 0
  simp at e0
  obtain ⟨r0, r1, r2, r3, r4⟩ := blk5 E2.out
  have z0 := frz E2.out 0
  have z1 := frz E2.out 1
  have z2 := frz E2.out 2
  have z3 := frz E2.out 3
  have z4 := frz E2.out 4
  have hs2 := E2.out.lt
  go_region
  go_wp2
  refine bodyPost_ret (v := .tuple #[.agg #[.slice pA x.inn.length pc, .slice qA x.out.length qc, .int .u64 (n : Int), .int .i64 0, .int .i64 0], .bool true]) (by simp [results, Tryz.results101, go_sem, hs2, r0, r1, r2, r3, r4]) rfl ?_
  have := HN.out
  have hb := (below5 B4.out (g := w.heap.size + 1 + 1) (by omega) (.slice pA x.inn.length pc) (.slice qA x.out.length qc) (.int .u64 (n : Int)) (.int .i64 0) (.int .i64 0)).drew
  refine ⟨_, _, n, 0, 0, true, _, _, rfl, HI.out.below hb (Nat.le_refl _), HQ.out.below hb (Nat.le_refl _), this, ?_, ?_, (fun h => by cases h), hb⟩
  ·intro hf
   rw [HF.out] at hf
   cases hf
  ·intro x hf
   rw [HF.out] at hf
   simp at hf
   exact ⟨rfl, Nat.le_refl _, hf.symm, by decide, by decide⟩
 ·have hlt' : decide ((n : Int) < (e.sigs.length : Int)) = false := by simp; omega
  have HF := Lib.hid (show formV e s 16 n = none by simp [formV]; omega)
  clear h1 h2 h4 h5 hn hm
  go_enter Tryz.func101, Tryz.ntmps101
  go_wp2
  refine bodyPost_ret (v := .tuple #[.agg #[.slice none 0 0, .slice none 0 0, .int .u64 0, .int .i64 0, .int .i64 0], .bool false]) (by simp [results, Tryz.results101, go_sem]) rfl ?_
  exact ShP.no HF.out (al4 _ _ _ _ _)

set_option maxRecDepth 100000 in
set_option maxHeartbeats 1000000 in
theorem shapeOf_35 (e : EnvD) (s : SigD) (ve vs : Value) (n : Nat) (hn : n < 18446744073709551616) (w : World) (he : EnvV w ve e) (hs : SigV w vs s) : Calls Tryz.prog 101 #[ve, vs, .int .i64 35, .int .u64 (n : Int)] w (ShP false (formV e s 35 n) n (toLo 35) (toHi 35) w) := by
 obtain ⟨a, b, d, rfl, h1, h2, h3⟩ := he
 obtain ⟨As, cs, rfl, _⟩ := h1.len
 obtain ⟨Ag, cg, rfl⟩ := h2.shape
 have hm := h3
 obtain ⟨Am, cm, rfl, _⟩ := h3
 obtain ⟨p, q, rfl, h4, h5⟩ := hs
 obtain ⟨Ap, cp, rfl⟩ := h4.shape
 obtain ⟨Aq, cq, rfl⟩ := h5.shape
 have HO := Lib.hid h5.ir
 have hl := h2.lenV
 by_cases hlt : n < e.globals.length
 ·obtain ⟨x, hx⟩ : ∃ x, e.globals[n]? = some x := ⟨_, List.getElem?_eq_getElem hlt⟩
  have hlt' : decide ((e.globals.length : Int) ≤ (n : Int)) = false := by simp; omega
  have hge : ¬ e.globals.length ≤ n := by omega
  have hlt2 : (n : Int) < (e.globals.length : Int) := by omega
  obtain ⟨gb, go, rfl, hgb, c0⟩ := h2.ir.cell hx
  have hgb1 : gb < w.heap.size + 1 := by omega
  have hgb2 : gb < w.heap.size + 1 + 1 := by omega
  have hgb3 : gb < w.heap.size + 1 + 1 + 1 := by omega
  have hgb4 : gb < w.heap.size + 1 + 1 + 1 + 1 := by omega
  have HF := Lib.hid (show formV e s 35 n = some ([], [x]) by simp [formV, hx])
  have HN := Lib.hid hn
  clear h1 h2 h4 h5 hn hm hx
  go_enter Tryz.func101, Tryz.ntmps101
  go_wp2
  refine bodyPost_ret (v := .tuple #[.agg #[.slice none 0 0, .slice (some ⟨w.heap.size + 1 + 1 + 1 + 1, 0, none⟩) 1 1, .int .u64 (n : Int), .int .i64 0, .int .i64 0], .bool true]) (by simp [results, Tryz.results101, go_sem]) rfl ?_
  have := HN.out
  refine ⟨_, _, n, 0, 0, true, [], [x], rfl, IR.nil _, IR.one (at5 _ _ _ _ _ _ _), this, ?_, ?_, (fun h => by cases h), al5 _ _ _ _ _ _⟩
  ·intro hf
   rw [HF.out] at hf
   cases hf
  ·intro x hf
   rw [HF.out] at hf
   simp at hf
   exact ⟨rfl, Nat.le_refl _, hf.symm, by decide, by decide⟩
 ·have hlt' : decide ((e.globals.length : Int) ≤ (n : Int)) = true := by simp; omega
  have hge : e.globals.length ≤ n := by omega
  have HF := Lib.hid (show formV e s 35 n = none by simp [formV, hge])
  clear h1 h2 h4 h5 hn hm
  go_enter Tryz.func101, Tryz.ntmps101
  go_wp2
  refine bodyPost_ret (v := .tuple #[.agg #[.slice none 0 0, .slice none 0 0, .int .u64 0, .int .i64 0, .int .i64 0], .bool false]) (by simp [results, Tryz.results101, go_sem]) rfl ?_
  exact ShP.no HF.out (al4 _ _ _ _ _)

set_option maxRecDepth 100000 in
set_option maxHeartbeats 1000000 in
theorem shapeOf_36 (e : EnvD) (s : SigD) (ve vs : Value) (n : Nat) (hn : n < 18446744073709551616) (w : World) (he : EnvV w ve e) (hs : SigV w vs s) (hmg : e.muts.length = e.globals.length) : Calls Tryz.prog 101 #[ve, vs, .int .i64 36, .int .u64 (n : Int)] w (ShP false (formV e s 36 n) n (toLo 36) (toHi 36) w) := by
 obtain ⟨a, b, d, rfl, h1, h2, h3⟩ := he
 obtain ⟨As, cs, rfl, _⟩ := h1.len
 obtain ⟨Ag, cg, rfl⟩ := h2.shape
 have hm := h3
 obtain ⟨Am, cm, rfl, _⟩ := h3
 obtain ⟨p, q, rfl, h4, h5⟩ := hs
 obtain ⟨Ap, cp, rfl⟩ := h4.shape
 obtain ⟨Aq, cq, rfl⟩ := h5.shape
 have HO := Lib.hid h5.ir
 have hl := h2.lenV
 by_cases hlt : n < e.globals.length
 ·obtain ⟨x, hx⟩ : ∃ x, e.globals[n]? = some x := ⟨_, List.getElem?_eq_getElem hlt⟩
  have hlt' : decide ((e.globals.length : Int) ≤ (n : Int)) = false := by simp; omega
  have hge : ¬ e.globals.length ≤ n := by omega
  have hlt2 : (n : Int) < (e.globals.length : Int) := by omega
  obtain ⟨gb, go, rfl, hgb, c0⟩ := h2.ir.cell hx
  have hgb1 : gb < w.heap.size + 1 := by omega
  have hgb2 : gb < w.heap.size + 1 + 1 := by omega
  have hgb3 : gb < w.heap.size + 1 + 1 + 1 := by omega
  have hgb4 : gb < w.heap.size + 1 + 1 + 1 + 1 := by omega
  obtain ⟨y, hy⟩ : ∃ y, e.muts[n]? = some y := ⟨_, List.getElem?_eq_getElem (by omega)⟩
  obtain ⟨Am', cm', e', hms, _⟩ := hm
  injection e' with e1 e2 e3
  subst e1
  subst e3
  have hnm : n < e.muts.length := by omega
  have hnm2 : (n : Int) < (e.muts.length : Int) := by omega
  obtain ⟨mb, mo, rfl, hmb⟩ := hms.addr (by omega)
  have hmb1 : mb < w.heap.size + 1 := by omega
  have hmb2 : mb < w.heap.size + 1 + 1 := by omega
  have hmb3 : mb < w.heap.size + 1 + 1 + 1 := by omega
  have hmb4 : mb < w.heap.size + 1 + 1 + 1 + 1 := by omega
  have c1 := hms.at_ hnm
  rw [boolsV_at hnm, (List.getElem?_eq_some_iff.1 hy).2] at c1
  have HF := Lib.hid (show formV e s 36 n = if y = true then some ([x], []) else none by cases y <;> simp [formV, hx, hy])
  have HN := Lib.hid hn
  clear h1 h2 h4 h5 hn hms hx hy hmg
  go_enter Tryz.func101, Tryz.ntmps101
  go_wp2_with fail
  go_region
  go_wp2
  refine bodyPost_ret (v := .tuple #[.agg #[.slice (some ⟨w.heap.size + 1 + 1 + 1 + 1, 0, none⟩) 1 1, .slice none 0 0, .int .u64 (n : Int), .int .i64 0, .int .i64 0], .bool y]) (by simp [results, Tryz.results101, go_sem]) rfl ?_
  have := HN.out
  refine ⟨_, _, n, 0, 0, y, [x], [], rfl, IR.one (at5 _ _ _ _ _ _ _).drew, IR.nil _, this, fun hf => ?_, fun x hf => ?_, (fun h => by cases h), (al5 _ _ _ _ _ _).drew⟩
  ·rw [HF.out] at hf
   cases y with
   | false => exact .inl rfl
   | true => cases hf
  ·rw [HF.out] at hf
   cases y with
   | false => cases hf
   | true =>
    simp at hf
    exact ⟨rfl, Nat.le_refl _, hf.symm, by decide, by decide⟩
 ·have hlt' : decide ((e.globals.length : Int) ≤ (n : Int)) = true := by simp; omega
  have hge : e.globals.length ≤ n := by omega
  have HF := Lib.hid (show formV e s 36 n = none by simp [formV, hge])
  clear h1 h2 h4 h5 hn hm hmg
  go_enter Tryz.func101, Tryz.ntmps101
  go_wp2
  refine bodyPost_ret (v := .tuple #[.agg #[.slice none 0 0, .slice none 0 0, .int .u64 0, .int .i64 0, .int .i64 0], .bool false]) (by simp [results, Tryz.results101, go_sem]) rfl ?_
  exact ShP.no HF.out (al4 _ _ _ _ _)
end Go.Proofs.YtgmapikcpnffhaaGreat
namespace Go.Proofs.YtgmapikcpnffhaaGreat
open Go.RowKit Go.Bk Go.Bk.Liv Go.Bk.Num Go.Bk.Mem
set_option linter.unusedVariables false
set_option linter.unusedSimpArgs false

/-- an operator that has no case of its own -/
structure Off (op : Int) : Prop where
 o0 : (op == 256) = false
 o1 : (op == 272) = false
 o2 : (op == 273) = false
 o3 : (op == 274) = false
 o4 : (op == 275) = false
 o5 : (op == 276) = false
 o6 : (op == 277) = false
 o7 : (op == 258) = false
 o8 : (op == 27) = false
 o9 : (op == 16) = false
 o10 : (op == 35) = false
 o11 : (op == 36) = false
theorem Off.form {op : Int} (h : Off op) (e : EnvD) (s : SigD) (n : Nat) : formV e s op n = (if (grpOf op).isSome then if n = 0 then some (sigL op, [sigO op]) else none else memF e.mem op n) ∧ toLo op = 0 ∧ toHi op = 0 := by
 obtain ⟨h0, h1, h2, h3, h4, h5, h6, h7, h8, h9, h10, h11⟩ := h
 simp at h0 h1 h2 h3 h4 h5 h6 h7 h8 h9 h10 h11
 refine ⟨?_, ?_, ?_⟩
 ·simp only [formV, h0, h1, h2, h3, h4, h5, h6, h7, h8, h9, h10, h11, if_false, or_self]
 ·simp [toLo, h2, h3, h4]
 ·simp [toHi, h2, h3, h4]
theorem off_split {Q : Int → Prop} (h0 : Q 256) (h1 : Q 272) (h2 : Q 273) (h3 : Q 274) (h4 : Q 275) (h5 : Q 276) (h6 : Q 277) (h7 : Q 258) (h8 : Q 27) (h9 : Q 16) (h10 : Q 35) (h11 : Q 36) (hn : ∀ op, Off op → Q op) (op : Int) : Q op := by
 by_cases g0 : op = 256
 ·subst g0; exact h0
 by_cases g1 : op = 272
 ·subst g1; exact h1
 by_cases g2 : op = 273
 ·subst g2; exact h2
 by_cases g3 : op = 274
 ·subst g3; exact h3
 by_cases g4 : op = 275
 ·subst g4; exact h4
 by_cases g5 : op = 276
 ·subst g5; exact h5
 by_cases g6 : op = 277
 ·subst g6; exact h6
 by_cases g7 : op = 258
 ·subst g7; exact h7
 by_cases g8 : op = 27
 ·subst g8; exact h8
 by_cases g9 : op = 16
 ·subst g9; exact h9
 by_cases g10 : op = 35
 ·subst g10; exact h10
 by_cases g11 : op = 36
 ·subst g11; exact h11
 exact hn op ⟨beq_false_of_ne g0, beq_false_of_ne g1, beq_false_of_ne g2, beq_false_of_ne g3, beq_false_of_ne g4, beq_false_of_ne g5, beq_false_of_ne g6, beq_false_of_ne g7, beq_false_of_ne g8, beq_false_of_ne g9, beq_false_of_ne g10, beq_false_of_ne g11⟩

theorem IR.own {w : World} {base : Nat} {t : TypeId} {A : Option Addr} {c : Nat} {l : List Int} (h : w.ownsRow base t 1 (.slice A l.length c) l.length (i64s l)) : IR w (.slice A l.length c) l := ⟨A, c, rfl, Bk.Src.of_own h⟩
theorem IR.five {w : World} {g base : Nat} {t : TypeId} {A : Option Addr} {c : Nat} {l : List Int} (h : w.ownsRow base t 1 (.slice A l.length c) l.length (i64s l)) (hg : g < base) (a b d e f : Value) :
  IR (((((w.setCell ⟨g, 0, none⟩ a).setCell ⟨g, 1, none⟩ b).setCell ⟨g, 2, none⟩ d).setCell ⟨g, 3, none⟩ e).setCell ⟨g, 4, none⟩ f) (.slice A l.length c) l := by
 have key : ∀ a, A = some a → a.block ≠ g := by
  intro a ha
  subst ha
  have := h.lt a.block (by rfl)
  omega
 refine ⟨A, c, rfl, ?_⟩
 exact (((((Bk.Src.of_own h).setCell (p := ⟨g, 0, none⟩) a key).setCell (p := ⟨g, 1, none⟩) b key).setCell (p := ⟨g, 2, none⟩) d key).setCell (p := ⟨g, 3, none⟩) e key).setCell (p := ⟨g, 4, none⟩) f key

theorem IR.fiveN {w : World} {g base : Nat} {v : Value} {l : List Int} (h : IR w v l) (hv : NewV base v) (hg : g < base) (a b d e f : Value) :
  IR (((((w.setCell ⟨g, 0, none⟩ a).setCell ⟨g, 1, none⟩ b).setCell ⟨g, 2, none⟩ d).setCell ⟨g, 3, none⟩ e).setCell ⟨g, 4, none⟩ f) v l := by
 have key : ∀ A n c, v = .slice A n c → ∀ a, A = some a → a.block ≠ g := by
  intro A n c e a ha
  have := hv A n c e a ha
  omega
 exact ((((h.setCell (p := ⟨g, 0, none⟩) a key).setCell (p := ⟨g, 1, none⟩) b key).setCell (p := ⟨g, 2, none⟩) d key).setCell (p := ⟨g, 3, none⟩) e key).setCell (p := ⟨g, 4, none⟩) f key
set_option maxRecDepth 100000 in
set_option maxHeartbeats 2000000 in
theorem shapeOf_off (op : Int) (hw1 : -9223372036854775808 ≤ op) (hw2 : op ≤ 9223372036854775807) (ho : Off op) (e : EnvD) (s : SigD) (ve vs : Value) (n : Nat) (hn : n < 18446744073709551616) (w : World) (he : EnvV w ve e) (hs : SigV w vs s) :
  Calls Tryz.prog 101 #[ve, vs, .int .i64 op, .int .u64 (n : Int)] w (ShP false (formV e s op n) n (toLo op) (toHi op) w) := by
 obtain ⟨hf, hlo, hhi⟩ := ho.form e s n
 rw [hlo, hhi]
 obtain ⟨a, b, d, rfl, h1, h2, h3⟩ := he
 obtain ⟨As, cs, rfl, _⟩ := h1.len
 obtain ⟨Ag, cg, rfl⟩ := h2.shape
 obtain ⟨Am, cm, rfl, _⟩ := h3
 obtain ⟨p, q, rfl, h4, h5⟩ := hs
 obtain ⟨Ap, cp, rfl⟩ := h4.shape
 obtain ⟨Aq, cq, rfl⟩ := h5.shape
 have HN := Lib.hid hn
 obtain ⟨g0, g1, g2, g3, g4, g5, g6, g7, g8, g9, g10, g11⟩ := ho
 have B4 := Lib.hid (al4 w (.cells #[.slice As e.sigs.length cs, .int .i64 e.imports, .slice Ag e.globals.length cg, .slice Am e.muts.length cm, .bool e.mem] 26) (.cells #[.slice Ap s.inn.length cp, .slice Aq s.out.length cq] 28) (.cells #[.slice none 0 0, .slice none 0 0, .int .u64 0, .int .i64 0, .int .i64 0] 148) (.cells #[.int .i64 127] 3))
 have E0 := Lib.hid ((((Blk.new w 26 #[.slice As e.sigs.length cs, .int .i64 e.imports, .slice Ag e.globals.length cg, .slice Am e.muts.length cm, .bool e.mem]).alloc (.cells #[.slice Ap s.inn.length cp, .slice Aq s.out.length cq] 28)).alloc (.cells #[.slice none 0 0, .slice none 0 0, .int .u64 0, .int .i64 0, .int .i64 0] 148)).alloc (.cells #[.int .i64 127] 3))
 have E2 := Lib.hid ((at3 w (.cells #[.slice As e.sigs.length cs, .int .i64 e.imports, .slice Ag e.globals.length cg, .slice Am e.muts.length cm, .bool e.mem] 26) (.cells #[.slice Ap s.inn.length cp, .slice Aq s.out.length cq] 28) 148 #[.slice none 0 0, .slice none 0 0, .int .u64 0, .int .i64 0, .int .i64 0]).alloc (.cells #[.int .i64 127] 3))
 have hs4 : w.heap.size + 1 + 1 + 1 + 1 = ((((w.alloc (.cells #[.slice As e.sigs.length cs, .int .i64 e.imports, .slice Ag e.globals.length cg, .slice Am e.muts.length cm, .bool e.mem] 26)).alloc (.cells #[.slice Ap s.inn.length cp, .slice Aq s.out.length cq] 28)).alloc (.cells #[.slice none 0 0, .slice none 0 0, .int .u64 0, .int .i64 0, .int .i64 0] 148)).alloc (.cells #[.int .i64 127] 3)).heap.size := by simp
 have HS4 := Lib.hid hs4
 clear h1 h2 h4 h5 hn hs4
 cases hg : grpOf op with
 | some gg =>
  have HI := Lib.hid (show (grpOf op).isSome = true by simp [hg])
  rw [hg] at hf
  have HF := Lib.hid (show formV e s op n = if n = 0 then some (sigL op, [sigO op]) else none from hf)
  clear hf hg
  go_enter Tryz.func101, Tryz.ntmps101
  go_wp2_with fail
  refine (Sig_any op _ hw1 hw2).mono ?_
  rintro en w1 ⟨A1, c1, rfl, hr1, hb1⟩
  rw [HI.out]
  have B1 := Lib.hid (B4.out.trans (hb1.mono B4.out.size))
  have F2 := Lib.hid (E2.out.below hb1 E2.out.lt)
  have HR := Lib.hid hr1
  have HS := Lib.hid (hb1.size)
  clear hb1 hr1
  obtain ⟨r0, r1, r2, r3, r4⟩ := blk5 F2.out
  have z0 := frz F2.out 0
  have z1 := frz F2.out 1
  have z2 := frz F2.out 2
  have z3 := frz F2.out 3
  have z4 := frz F2.out 4
  have hs2 := F2.out.lt
  go_wp2
  refine bodyPost_ret (v := .tuple #[.agg #[.slice A1 (sigL op).length c1, .slice (some ⟨w1.heap.size, 0, none⟩) 1 1, .int .u64 0, .int .i64 0, .int .i64 0], .bool true]) (by simp [results, Tryz.results101, go_sem, hs2, r0, r1, r2, r3, r4]) rfl ?_
  have hh := HR.out
  rw [← HS4.out] at hh
  refine ⟨_, _, 0, 0, 0, true, sigL op, [sigO op], rfl, ?_, ?_, by omega, ?_, ?_, (fun h => by cases h), ?_⟩
  ·exact (IR.five (g := w.heap.size + 1 + 1) hh (by omega) _ _ _ _ _).alloc _
  ·exact IR.one (x := sigO op) (Blk.newAt _ _ _ (by simp))
  ·intro hf
   rw [HF.out] at hf
   exact .inr (by simp at hf; omega)
  ·intro x hf
   rw [HF.out] at hf
   simp at hf
   exact ⟨rfl, by omega, hf.2.symm, rfl, rfl⟩
  ·exact (below5 B1.out (by omega) _ _ _ _ _).alloc (by simp; exact B1.out.size) _
 | none =>
  have HI := Lib.hid (show (grpOf op).isSome = false by simp [hg])
  rw [hg] at hf
  have HF := Lib.hid (show formV e s op n = memF e.mem op n from hf)
  clear hf hg
  go_enter Tryz.func101, Tryz.ntmps101
  go_wp2_with fail
  refine (Sig_any op _ hw1 hw2).mono ?_
  rintro en w1 ⟨A1, c1, rfl, hr1, hb1⟩
  rw [HI.out]
  have B1 := Lib.hid (B4.out.trans (hb1.mono B4.out.size))
  have F2 := Lib.hid (E2.out.below hb1 E2.out.lt)
  have F0 := Lib.hid (E0.out.below hb1 E0.out.lt)
  have HZ := Lib.hid hb1.size
  clear hb1 hr1
  have e4 := F0.out.cell 4
  simp at e4
  go_wp2_with fail
  refine (memory_any op e.mem n HN.out _).mono ?_
  rintro en w2 ⟨vi, vo, most, a, b, ok, i, o, rfl, hvi, hvo, hmost, hP, hQ, hnw, hb2⟩
  obtain ⟨Ai, ci, rfl⟩ := hvi.shape
  obtain ⟨Ao, co, rfl⟩ := hvo.shape
  have B2 := Lib.hid (B1.out.trans (hb2.mono B1.out.size))
  have G2 := Lib.hid (F2.out.below hb2 F2.out.lt)
  have HVI := Lib.hid hvi
  have HVO := Lib.hid hvo
  have HP := Lib.hid hP
  have HQ := Lib.hid hQ
  have HM := Lib.hid hmost
  have HNW := Lib.hid (hnw rfl)
  clear hnw hb2 hvi hvo hP hQ hmost e4
  obtain ⟨r0, r1, r2, r3, r4⟩ := blk5 G2.out
  have z0 := frz G2.out 0
  have z1 := frz G2.out 1
  have z2 := frz G2.out 2
  have z3 := frz G2.out 3
  have z4 := frz G2.out 4
  have hs2 := G2.out.lt
  go_wp2
  refine bodyPost_ret (v := .tuple #[.agg #[.slice Ai i.length ci, .slice Ao o.length co, .int .u64 (most : Int), .int .i64 a, .int .i64 b], .bool ok]) (by simp [results, Tryz.results101, go_sem, hs2, r0, r1, r2, r3, r4]) rfl ?_
  have hz : w.heap.size + 1 + 1 + 1 + 1 ≤ w1.heap.size := by rw [HS4.out]; exact HZ.out
  refine ⟨_, _, most, a, b, ok, i, o, rfl, ?_, ?_, HM.out, ?_, ?_, (fun h => by cases h), ?_⟩
  ·exact IR.fiveN HVI.out HNW.out.1 (by omega) _ _ _ _ _
  ·exact IR.fiveN HVO.out HNW.out.2 (by omega) _ _ _ _ _
  ·rw [HF.out]; exact HP.out
  ·rw [HF.out]; exact HQ.out
  ·exact below5 B2.out (by omega) _ _ _ _ _

/-- shapeOf, of any operator -/
theorem shapeOf_any (op : Int) (hw1 : -9223372036854775808 ≤ op) (hw2 : op ≤ 9223372036854775807) (e : EnvD) (s : SigD) (ve vs : Value) (n : Nat) (hn : n < 18446744073709551616) (w : World) (he : EnvV w ve e) (hs : SigV w vs s) (hmg : e.muts.length = e.globals.length) :
  Calls Tryz.prog 101 #[ve, vs, .int .i64 op, .int .u64 (n : Int)] w (ShP false (formV e s op n) n (toLo op) (toHi op) w) := by
 revert hw1 hw2
 revert op
 refine off_split (fun _ _ => shapeOf_256 e s ve vs n hn w he hs) (fun _ _ => shapeOf_272 e s ve vs n hn w he hs) (fun _ _ => shapeOf_273 e s ve vs n hn w he hs) (fun _ _ => shapeOf_274 e s ve vs n hn w he hs) (fun _ _ => shapeOf_275 e s ve vs n hn w he hs) (fun _ _ => shapeOf_276 e s ve vs n hn w he hs) (fun _ _ => shapeOf_277 e s ve vs n hn w he hs) (fun _ _ => shapeOf_258 e s ve vs n hn w he hs) (fun _ _ => shapeOf_27 e s ve vs n hn w he hs) (fun _ _ => shapeOf_16 e s ve vs n hn w he hs) (fun _ _ => shapeOf_35 e s ve vs n hn w he hs) (fun _ _ => shapeOf_36 e s ve vs n hn w he hs hmg) (fun op ho h1 h2 => shapeOf_off op h1 h2 ho e s ve vs n hn w he hs)
end Go.Proofs.YtgmapikcpnffhaaGreat
