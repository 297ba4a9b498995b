/-
  NumRest: what the statement's function answers.
  Conditions: the library's two tables hold what their initialisers lay.
-/
import Derived.Test.YtpfbdaemdghogaaDoorNumRestP
namespace Go.Proofs.YtpfbdaemdghogaaDoor
open Go.RowKit Go.Bk Go.Bk.Num
set_option linter.unusedVariables false
set_option linter.unusedSimpArgs false

def restCells : Array Value := #[.int .i64 109, .int .i64 111, .int .i64 108, .int .i64 106, .int .i64 110, .int .i64 112, .int .i64 108, .int .i64 106, .int .i64 127, .int .i64 129, .int .i64 126, .int .i64 124, .int .i64 128, .int .i64 130, .int .i64 126, .int .i64 124]
def Low (b : Bool) (x : Nat) : Nat := if b then x % 4294967296 else x
theorem rest_at {x y : Nat} (hx : x < 18446744073709551616) (hy : y < 18446744073709551616) : ∀ i, i < 4 → ∃ o0 o1 o2 o3 : Int, ∃ b : Bool, restCells[i * 4]? = some (.int .i64 o0) ∧ restCells[i * 4 + 1]? = some (.int .i64 o1) ∧ restCells[i * 4 + 2]? = some (.int .i64 o2) ∧ restCells[i * 4 + 3]? = some (.int .i64 o3) ∧ decide (o0 < 112) = b ∧ (100 ≤ o0 ∧ o0 < 200) ∧ (100 ≤ o1 ∧ o1 < 200) ∧ (100 ≤ o2 ∧ o2 < 200) ∧ (100 ≤ o3 ∧ o3 < 200) ∧ RestOK o0 o1 o2 o3 (Low b x) (Low b y) := by
  intro i hi
  have h : i = 0 ∨ i = 1 ∨ i = 2 ∨ i = 3 := by omega
  have lx : x % 4294967296 < 4294967296 := Nat.mod_lt _ (by omega)
  have ly : y % 4294967296 < 4294967296 := Nat.mod_lt _ (by omega)
  rcases h with rfl | rfl | rfl | rfl
  · exact ⟨109, 111, 108, 106, true, rfl, rfl, rfl, rfl, by decide, by decide, by decide, by decide, by decide, restS32 _ _ lx ly⟩
  · exact ⟨110, 112, 108, 106, true, rfl, rfl, rfl, rfl, by decide, by decide, by decide, by decide, by decide, restU32 _ _ lx ly⟩
  · exact ⟨127, 129, 126, 124, false, rfl, rfl, rfl, rfl, by decide, by decide, by decide, by decide, by decide, restS64 _ _ hx hy⟩
  · exact ⟨128, 130, 126, 124, false, rfl, rfl, rfl, rfl, by decide, by decide, by decide, by decide, by decide, restU64 _ _ hx hy⟩

theorem and32 {x : Nat} (hx : x < 18446744073709551616) : bits .and .u64 (x : Int) 4294967295 = ((Low true x : Nat) : Int) := by
  rw [show (4294967295 : Int) = ((2 ^ 32 - 1 : Nat) : Int) from rfl, bits_and_u64_nat x (2 ^ 32 - 1) hx (by decide), Nat.and_two_pow_sub_one_eq_mod]
  rfl
theorem low_lt {b : Bool} {x : Nat} (hx : x < 18446744073709551616) : Low b x < 18446744073709551616 := by unfold Low; split <;> omega

def ReRel (w0 : World) (G : Nat) (i : Value) (wr : World) : Prop := ∃ k : Nat, k ≤ 4 ∧ i = .int .i64 k ∧ Hid (Blk wr G 37 restCells) ∧ Hid (Below w0.heap.size w0 wr)

set_option maxRecDepth 100000 in
set_option maxHeartbeats 2000000 in
theorem NumRest_true (w : World) (hT : Tabs w) (a : Int) (ha : (Lit.int .u64 a).wf = true) (b : Int) (hb : (Lit.int .u64 b).wf = true) :
    Calls Tryd.prog 5 #[.int .u64 a, .int .u64 b] w fun e w' => e = .returned (.bool true) ∧ Below w.heap.size w w' := by
  obtain ⟨ha1, ha2⟩ := u64_bounds ha
  obtain ⟨x, rfl⟩ := Int.eq_ofNat_of_zero_le ha1
  obtain ⟨hb1, hb2⟩ := u64_bounds hb
  obtain ⟨y, rfl⟩ := Int.eq_ofNat_of_zero_le hb1
  have hx : x < 18446744073709551616 := by omega
  have hy : y < 18446744073709551616 := by omega
  have HT := Lib.hid hT
  clear hT ha hb ha1 ha2 hb1 hb2
  go_enter Tryd.func5, Tryd.ntmps5
  go_wp2
  go_loopw [23] (fun i wr => ReRel w w.heap.size i wr) (fun i _ => 5 - (intOf i).toNat)
  case atStart => exact ⟨0, by omega, rfl, Lib.hid (Blk.new w 37 restCells), Lib.hid ((Below.refl _ _).alloc (Nat.le_refl _) _)⟩
  case round =>
    obtain ⟨k, hk, rfl, HG, HB⟩ := hrel
    by_cases hlt : k < 4
    · obtain ⟨o0, o1, o2, o3, bb, e0, e1, e2, e3, q0, b0, b1, b2, b3, hR⟩ := rest_at hx hy k hlt
      have c0 := (HG.out.cell (k * 4)).trans e0
      have c1 := (HG.out.cell (k * 4 + 1)).trans e1
      have c2 := (HG.out.cell (k * 4 + 2)).trans e2
      have c3 := (HG.out.cell (k * 4 + 3)).trans e3
      have HR := Lib.hid hR
      have hlt' : decide ((k : Int) < 4) = true := by simp; omega
      clear e0 e1 e2 e3 hR
      cases bb with
      | true =>
        have hu : Low true x < 18446744073709551616 := low_lt hx
        have hv : Low true y < 18446744073709551616 := low_lt hy
        have EX := Lib.hid (and32 hx)
        have EY := Lib.hid (and32 hy)
        generalize Low true x = u at HR EX hu
        generalize Low true y = v at HR EY hv
        rcases HR.out with ⟨h0, q, r, g0, g1⟩ | ⟨h0, q, g0, g1⟩ | ⟨h0, q, r, p, hq, hr, hp, g0, g1, g2, g3⟩
        · have v1 : ((v : Int) != 0) = false := by simp [h0]
          have v2 : ((v : Int) == 0) = true := by simp [h0]
          have E0 := Lib.hid g0
          have E1 := Lib.hid g1
          clear HR h0 g0 g1
          go_wp2_with fail
          rw [EX.out, EY.out]
          have b1w := Lib.hid (show Below w.heap.size w ((wr.alloc (.cells #[.int .i64 o0, .int .i64 o1, .int .i64 o2, .int .i64 o3] 37)).alloc (.cells #[.int .u64 (u : Nat), .int .u64 (v : Nat)] 23)) from (HB.out.alloc HB.out.size _).alloc (by have := HB.out.size; simp; omega) _)
          refine (Eval_any o0 _ 2 2 [u, v] _ (by omega) (by omega) (src2 (by simp) u v) (all2 hu hv) (HT.out.below b1w.out HT.out.2.2)).mono ?_
          rintro e w1 ⟨rfl, hb1⟩
          rw [E0.out]
          have HB1 := Lib.hid (b1w.out.trans (hb1.mono (by have := HB.out.size; simp; omega)))
          have HG1 := Lib.hid (((HG.out.alloc (.cells #[.int .i64 o0, .int .i64 o1, .int .i64 o2, .int .i64 o3] 37)).alloc (.cells #[.int .u64 (u : Nat), .int .u64 (v : Nat)] 23)).below hb1 (by have := HG.out.lt; simp; omega))
          have HX1 := Lib.hid (((Blk.new wr 37 #[.int .i64 o0, .int .i64 o1, .int .i64 o2, .int .i64 o3]).alloc (.cells #[.int .u64 (u : Nat), .int .u64 (v : Nat)] 23)).below hb1 (by simp; omega))
          have xs1 : wr.heap.size < w1.heap.size := HX1.out.lt
          have x10 : w1.cell? ⟨wr.heap.size, 0, none⟩ = some (.int .i64 o0) := by simpa using HX1.out.cell 0
          have x11 : w1.cell? ⟨wr.heap.size, 1, none⟩ = some (.int .i64 o1) := by simpa using HX1.out.cell 1
          have x12 : w1.cell? ⟨wr.heap.size, 2, none⟩ = some (.int .i64 o2) := by simpa using HX1.out.cell 2
          have x13 : w1.cell? ⟨wr.heap.size, 3, none⟩ = some (.int .i64 o3) := by simpa using HX1.out.cell 3
          clear hb1
          go_wp2_with fail
          have b2w := Lib.hid (show Below w.heap.size w (w1.alloc (.cells #[.int .u64 (u : Nat), .int .u64 (v : Nat)] 23)) from HB1.out.alloc HB1.out.size _)
          refine (Eval_any o1 _ 2 2 [u, v] _ (by omega) (by omega) (src2 rfl u v) (all2 hu hv) (HT.out.below b2w.out HT.out.2.2)).mono ?_
          rintro e w2 ⟨rfl, hb2⟩
          rw [E1.out]
          have HB2 := Lib.hid (b2w.out.trans (hb2.mono (by have := HB.out.size; have := HB1.out.size; simp; omega)))
          have HG2 := Lib.hid ((HG1.out.alloc (.cells #[.int .u64 (u : Nat), .int .u64 (v : Nat)] 23)).below hb2 (by have := HG1.out.lt; simp; omega))
          have HX2 := Lib.hid ((HX1.out.alloc (.cells #[.int .u64 (u : Nat), .int .u64 (v : Nat)] 23)).below hb2 (by have := HX1.out.lt; simp; omega))
          have xs2 : wr.heap.size < w2.heap.size := HX2.out.lt
          have x20 : w2.cell? ⟨wr.heap.size, 0, none⟩ = some (.int .i64 o0) := by simpa using HX2.out.cell 0
          have x21 : w2.cell? ⟨wr.heap.size, 1, none⟩ = some (.int .i64 o1) := by simpa using HX2.out.cell 1
          have x22 : w2.cell? ⟨wr.heap.size, 2, none⟩ = some (.int .i64 o2) := by simpa using HX2.out.cell 2
          have x23 : w2.cell? ⟨wr.heap.size, 3, none⟩ = some (.int .i64 o3) := by simpa using HX2.out.cell 3
          clear hb2
          go_wp2
          exact ⟨⟨k + 1, by omega, by simp, HG2, HB2⟩, by simp [intOf]; omega⟩
        · have v1 : ((v : Int) != 0) = true := by simp [h0]
          have v2 : ((v : Int) == 0) = false := by simp [h0]
          have E0 := Lib.hid g0
          have E1 := Lib.hid g1
          clear HR h0 g0 g1
          go_wp2_with fail
          rw [EX.out, EY.out]
          have b1w := Lib.hid (show Below w.heap.size w ((wr.alloc (.cells #[.int .i64 o0, .int .i64 o1, .int .i64 o2, .int .i64 o3] 37)).alloc (.cells #[.int .u64 (u : Nat), .int .u64 (v : Nat)] 23)) from (HB.out.alloc HB.out.size _).alloc (by have := HB.out.size; simp; omega) _)
          refine (Eval_any o0 _ 2 2 [u, v] _ (by omega) (by omega) (src2 (by simp) u v) (all2 hu hv) (HT.out.below b1w.out HT.out.2.2)).mono ?_
          rintro e w1 ⟨rfl, hb1⟩
          rw [E0.out]
          have HB1 := Lib.hid (b1w.out.trans (hb1.mono (by have := HB.out.size; simp; omega)))
          have HG1 := Lib.hid (((HG.out.alloc (.cells #[.int .i64 o0, .int .i64 o1, .int .i64 o2, .int .i64 o3] 37)).alloc (.cells #[.int .u64 (u : Nat), .int .u64 (v : Nat)] 23)).below hb1 (by have := HG.out.lt; simp; omega))
          have HX1 := Lib.hid (((Blk.new wr 37 #[.int .i64 o0, .int .i64 o1, .int .i64 o2, .int .i64 o3]).alloc (.cells #[.int .u64 (u : Nat), .int .u64 (v : Nat)] 23)).below hb1 (by simp; omega))
          have xs1 : wr.heap.size < w1.heap.size := HX1.out.lt
          have x10 : w1.cell? ⟨wr.heap.size, 0, none⟩ = some (.int .i64 o0) := by simpa using HX1.out.cell 0
          have x11 : w1.cell? ⟨wr.heap.size, 1, none⟩ = some (.int .i64 o1) := by simpa using HX1.out.cell 1
          have x12 : w1.cell? ⟨wr.heap.size, 2, none⟩ = some (.int .i64 o2) := by simpa using HX1.out.cell 2
          have x13 : w1.cell? ⟨wr.heap.size, 3, none⟩ = some (.int .i64 o3) := by simpa using HX1.out.cell 3
          clear hb1
          go_wp2_with fail
          have b2w := Lib.hid (show Below w.heap.size w (w1.alloc (.cells #[.int .u64 (u : Nat), .int .u64 (v : Nat)] 23)) from HB1.out.alloc HB1.out.size _)
          refine (Eval_any o1 _ 2 2 [u, v] _ (by omega) (by omega) (src2 rfl u v) (all2 hu hv) (HT.out.below b2w.out HT.out.2.2)).mono ?_
          rintro e w2 ⟨rfl, hb2⟩
          rw [E1.out]
          have HB2 := Lib.hid (b2w.out.trans (hb2.mono (by have := HB.out.size; have := HB1.out.size; simp; omega)))
          have HG2 := Lib.hid ((HG1.out.alloc (.cells #[.int .u64 (u : Nat), .int .u64 (v : Nat)] 23)).below hb2 (by have := HG1.out.lt; simp; omega))
          have HX2 := Lib.hid ((HX1.out.alloc (.cells #[.int .u64 (u : Nat), .int .u64 (v : Nat)] 23)).below hb2 (by have := HX1.out.lt; simp; omega))
          have xs2 : wr.heap.size < w2.heap.size := HX2.out.lt
          have x20 : w2.cell? ⟨wr.heap.size, 0, none⟩ = some (.int .i64 o0) := by simpa using HX2.out.cell 0
          have x21 : w2.cell? ⟨wr.heap.size, 1, none⟩ = some (.int .i64 o1) := by simpa using HX2.out.cell 1
          have x22 : w2.cell? ⟨wr.heap.size, 2, none⟩ = some (.int .i64 o2) := by simpa using HX2.out.cell 2
          have x23 : w2.cell? ⟨wr.heap.size, 3, none⟩ = some (.int .i64 o3) := by simpa using HX2.out.cell 3
          clear hb2
          go_wp2
          exact ⟨⟨k + 1, by omega, by simp, HG2, HB2⟩, by simp [intOf]; omega⟩
        · have uu : ((u : Int) != (u : Int)) = false := by simp
          have E2 := Lib.hid g2
          have E3 := Lib.hid g3
          clear g2 g3
          have E0 := Lib.hid g0
          have E1 := Lib.hid g1
          clear HR h0 g0 g1
          go_wp2_with fail
          rw [EX.out, EY.out]
          have b1w := Lib.hid (show Below w.heap.size w ((wr.alloc (.cells #[.int .i64 o0, .int .i64 o1, .int .i64 o2, .int .i64 o3] 37)).alloc (.cells #[.int .u64 (u : Nat), .int .u64 (v : Nat)] 23)) from (HB.out.alloc HB.out.size _).alloc (by have := HB.out.size; simp; omega) _)
          refine (Eval_any o0 _ 2 2 [u, v] _ (by omega) (by omega) (src2 (by simp) u v) (all2 hu hv) (HT.out.below b1w.out HT.out.2.2)).mono ?_
          rintro e w1 ⟨rfl, hb1⟩
          rw [E0.out]
          have HB1 := Lib.hid (b1w.out.trans (hb1.mono (by have := HB.out.size; simp; omega)))
          have HG1 := Lib.hid (((HG.out.alloc (.cells #[.int .i64 o0, .int .i64 o1, .int .i64 o2, .int .i64 o3] 37)).alloc (.cells #[.int .u64 (u : Nat), .int .u64 (v : Nat)] 23)).below hb1 (by have := HG.out.lt; simp; omega))
          have HX1 := Lib.hid (((Blk.new wr 37 #[.int .i64 o0, .int .i64 o1, .int .i64 o2, .int .i64 o3]).alloc (.cells #[.int .u64 (u : Nat), .int .u64 (v : Nat)] 23)).below hb1 (by simp; omega))
          have xs1 : wr.heap.size < w1.heap.size := HX1.out.lt
          have x10 : w1.cell? ⟨wr.heap.size, 0, none⟩ = some (.int .i64 o0) := by simpa using HX1.out.cell 0
          have x11 : w1.cell? ⟨wr.heap.size, 1, none⟩ = some (.int .i64 o1) := by simpa using HX1.out.cell 1
          have x12 : w1.cell? ⟨wr.heap.size, 2, none⟩ = some (.int .i64 o2) := by simpa using HX1.out.cell 2
          have x13 : w1.cell? ⟨wr.heap.size, 3, none⟩ = some (.int .i64 o3) := by simpa using HX1.out.cell 3
          clear hb1
          go_wp2_with fail
          have b2w := Lib.hid (show Below w.heap.size w (w1.alloc (.cells #[.int .u64 (u : Nat), .int .u64 (v : Nat)] 23)) from HB1.out.alloc HB1.out.size _)
          refine (Eval_any o1 _ 2 2 [u, v] _ (by omega) (by omega) (src2 rfl u v) (all2 hu hv) (HT.out.below b2w.out HT.out.2.2)).mono ?_
          rintro e w2 ⟨rfl, hb2⟩
          rw [E1.out]
          have HB2 := Lib.hid (b2w.out.trans (hb2.mono (by have := HB.out.size; have := HB1.out.size; simp; omega)))
          have HG2 := Lib.hid ((HG1.out.alloc (.cells #[.int .u64 (u : Nat), .int .u64 (v : Nat)] 23)).below hb2 (by have := HG1.out.lt; simp; omega))
          have HX2 := Lib.hid ((HX1.out.alloc (.cells #[.int .u64 (u : Nat), .int .u64 (v : Nat)] 23)).below hb2 (by have := HX1.out.lt; simp; omega))
          have xs2 : wr.heap.size < w2.heap.size := HX2.out.lt
          have x20 : w2.cell? ⟨wr.heap.size, 0, none⟩ = some (.int .i64 o0) := by simpa using HX2.out.cell 0
          have x21 : w2.cell? ⟨wr.heap.size, 1, none⟩ = some (.int .i64 o1) := by simpa using HX2.out.cell 1
          have x22 : w2.cell? ⟨wr.heap.size, 2, none⟩ = some (.int .i64 o2) := by simpa using HX2.out.cell 2
          have x23 : w2.cell? ⟨wr.heap.size, 3, none⟩ = some (.int .i64 o3) := by simpa using HX2.out.cell 3
          clear hb2
          go_wp2_with fail
          have b3w := Lib.hid (show Below w.heap.size w (w2.alloc (.cells #[.int .u64 (q : Nat), .int .u64 (v : Nat)] 23)) from HB2.out.alloc HB2.out.size _)
          refine (Eval_any o2 _ 2 2 [q, v] _ (by omega) (by omega) (src2 rfl q v) (all2 hq hv) (HT.out.below b3w.out HT.out.2.2)).mono ?_
          rintro e w3 ⟨rfl, hb3⟩
          rw [E2.out]
          have HB3 := Lib.hid (b3w.out.trans (hb3.mono (by have := HB.out.size; have := HB2.out.size; simp; omega)))
          have HG3 := Lib.hid ((HG2.out.alloc (.cells #[.int .u64 (q : Nat), .int .u64 (v : Nat)] 23)).below hb3 (by have := HG2.out.lt; simp; omega))
          have HX3 := Lib.hid ((HX2.out.alloc (.cells #[.int .u64 (q : Nat), .int .u64 (v : Nat)] 23)).below hb3 (by have := HX2.out.lt; simp; omega))
          have xs3 : wr.heap.size < w3.heap.size := HX3.out.lt
          have x30 : w3.cell? ⟨wr.heap.size, 0, none⟩ = some (.int .i64 o0) := by simpa using HX3.out.cell 0
          have x31 : w3.cell? ⟨wr.heap.size, 1, none⟩ = some (.int .i64 o1) := by simpa using HX3.out.cell 1
          have x32 : w3.cell? ⟨wr.heap.size, 2, none⟩ = some (.int .i64 o2) := by simpa using HX3.out.cell 2
          have x33 : w3.cell? ⟨wr.heap.size, 3, none⟩ = some (.int .i64 o3) := by simpa using HX3.out.cell 3
          clear hb3
          go_wp2_with fail
          have b4w := Lib.hid (show Below w.heap.size w (w3.alloc (.cells #[.int .u64 (p : Nat), .int .u64 (r : Nat)] 23)) from HB3.out.alloc HB3.out.size _)
          refine (Eval_any o3 _ 2 2 [p, r] _ (by omega) (by omega) (src2 rfl p r) (all2 hp hr) (HT.out.below b4w.out HT.out.2.2)).mono ?_
          rintro e w4 ⟨rfl, hb4⟩
          rw [E3.out]
          have HB4 := Lib.hid (b4w.out.trans (hb4.mono (by have := HB.out.size; have := HB3.out.size; simp; omega)))
          have HG4 := Lib.hid ((HG3.out.alloc (.cells #[.int .u64 (p : Nat), .int .u64 (r : Nat)] 23)).below hb4 (by have := HG3.out.lt; simp; omega))
          have HX4 := Lib.hid ((HX3.out.alloc (.cells #[.int .u64 (p : Nat), .int .u64 (r : Nat)] 23)).below hb4 (by have := HX3.out.lt; simp; omega))
          have xs4 : wr.heap.size < w4.heap.size := HX4.out.lt
          have x40 : w4.cell? ⟨wr.heap.size, 0, none⟩ = some (.int .i64 o0) := by simpa using HX4.out.cell 0
          have x41 : w4.cell? ⟨wr.heap.size, 1, none⟩ = some (.int .i64 o1) := by simpa using HX4.out.cell 1
          have x42 : w4.cell? ⟨wr.heap.size, 2, none⟩ = some (.int .i64 o2) := by simpa using HX4.out.cell 2
          have x43 : w4.cell? ⟨wr.heap.size, 3, none⟩ = some (.int .i64 o3) := by simpa using HX4.out.cell 3
          clear hb4
          go_wp2
          exact ⟨⟨k + 1, by omega, by simp, HG4, HB4⟩, by simp [intOf]; omega⟩
      | false =>
        have hu : Low false x < 18446744073709551616 := low_lt hx
        have hv : Low false y < 18446744073709551616 := low_lt hy
        have EX := Lib.hid (show (x : Int) = ((Low false x : Nat) : Int) from rfl)
        have EY := Lib.hid (show (y : Int) = ((Low false y : Nat) : Int) from rfl)
        have HR' : Hid (RestOK o0 o1 o2 o3 x y) := HR
        clear HR EX EY hu hv
        revert hx hy HR'
        generalize x = u
        generalize y = v
        intro hu hv HR
        rcases HR.out with ⟨h0, q, r, g0, g1⟩ | ⟨h0, q, g0, g1⟩ | ⟨h0, q, r, p, hq, hr, hp, g0, g1, g2, g3⟩
        · have v1 : ((v : Int) != 0) = false := by simp [h0]
          have v2 : ((v : Int) == 0) = true := by simp [h0]
          have E0 := Lib.hid g0
          have E1 := Lib.hid g1
          clear HR h0 g0 g1
          go_wp2_with fail
          have b1w := Lib.hid (show Below w.heap.size w ((wr.alloc (.cells #[.int .i64 o0, .int .i64 o1, .int .i64 o2, .int .i64 o3] 37)).alloc (.cells #[.int .u64 (u : Nat), .int .u64 (v : Nat)] 23)) from (HB.out.alloc HB.out.size _).alloc (by have := HB.out.size; simp; omega) _)
          refine (Eval_any o0 _ 2 2 [u, v] _ (by omega) (by omega) (src2 (by simp) u v) (all2 hu hv) (HT.out.below b1w.out HT.out.2.2)).mono ?_
          rintro e w1 ⟨rfl, hb1⟩
          rw [E0.out]
          have HB1 := Lib.hid (b1w.out.trans (hb1.mono (by have := HB.out.size; simp; omega)))
          have HG1 := Lib.hid (((HG.out.alloc (.cells #[.int .i64 o0, .int .i64 o1, .int .i64 o2, .int .i64 o3] 37)).alloc (.cells #[.int .u64 (u : Nat), .int .u64 (v : Nat)] 23)).below hb1 (by have := HG.out.lt; simp; omega))
          have HX1 := Lib.hid (((Blk.new wr 37 #[.int .i64 o0, .int .i64 o1, .int .i64 o2, .int .i64 o3]).alloc (.cells #[.int .u64 (u : Nat), .int .u64 (v : Nat)] 23)).below hb1 (by simp; omega))
          have xs1 : wr.heap.size < w1.heap.size := HX1.out.lt
          have x10 : w1.cell? ⟨wr.heap.size, 0, none⟩ = some (.int .i64 o0) := by simpa using HX1.out.cell 0
          have x11 : w1.cell? ⟨wr.heap.size, 1, none⟩ = some (.int .i64 o1) := by simpa using HX1.out.cell 1
          have x12 : w1.cell? ⟨wr.heap.size, 2, none⟩ = some (.int .i64 o2) := by simpa using HX1.out.cell 2
          have x13 : w1.cell? ⟨wr.heap.size, 3, none⟩ = some (.int .i64 o3) := by simpa using HX1.out.cell 3
          clear hb1
          go_wp2_with fail
          have b2w := Lib.hid (show Below w.heap.size w (w1.alloc (.cells #[.int .u64 (u : Nat), .int .u64 (v : Nat)] 23)) from HB1.out.alloc HB1.out.size _)
          refine (Eval_any o1 _ 2 2 [u, v] _ (by omega) (by omega) (src2 rfl u v) (all2 hu hv) (HT.out.below b2w.out HT.out.2.2)).mono ?_
          rintro e w2 ⟨rfl, hb2⟩
          rw [E1.out]
          have HB2 := Lib.hid (b2w.out.trans (hb2.mono (by have := HB.out.size; have := HB1.out.size; simp; omega)))
          have HG2 := Lib.hid ((HG1.out.alloc (.cells #[.int .u64 (u : Nat), .int .u64 (v : Nat)] 23)).below hb2 (by have := HG1.out.lt; simp; omega))
          have HX2 := Lib.hid ((HX1.out.alloc (.cells #[.int .u64 (u : Nat), .int .u64 (v : Nat)] 23)).below hb2 (by have := HX1.out.lt; simp; omega))
          have xs2 : wr.heap.size < w2.heap.size := HX2.out.lt
          have x20 : w2.cell? ⟨wr.heap.size, 0, none⟩ = some (.int .i64 o0) := by simpa using HX2.out.cell 0
          have x21 : w2.cell? ⟨wr.heap.size, 1, none⟩ = some (.int .i64 o1) := by simpa using HX2.out.cell 1
          have x22 : w2.cell? ⟨wr.heap.size, 2, none⟩ = some (.int .i64 o2) := by simpa using HX2.out.cell 2
          have x23 : w2.cell? ⟨wr.heap.size, 3, none⟩ = some (.int .i64 o3) := by simpa using HX2.out.cell 3
          clear hb2
          go_wp2
          exact ⟨⟨k + 1, by omega, by simp, HG2, HB2⟩, by simp [intOf]; omega⟩
        · have v1 : ((v : Int) != 0) = true := by simp [h0]
          have v2 : ((v : Int) == 0) = false := by simp [h0]
          have E0 := Lib.hid g0
          have E1 := Lib.hid g1
          clear HR h0 g0 g1
          go_wp2_with fail
          have b1w := Lib.hid (show Below w.heap.size w ((wr.alloc (.cells #[.int .i64 o0, .int .i64 o1, .int .i64 o2, .int .i64 o3] 37)).alloc (.cells #[.int .u64 (u : Nat), .int .u64 (v : Nat)] 23)) from (HB.out.alloc HB.out.size _).alloc (by have := HB.out.size; simp; omega) _)
          refine (Eval_any o0 _ 2 2 [u, v] _ (by omega) (by omega) (src2 (by simp) u v) (all2 hu hv) (HT.out.below b1w.out HT.out.2.2)).mono ?_
          rintro e w1 ⟨rfl, hb1⟩
          rw [E0.out]
          have HB1 := Lib.hid (b1w.out.trans (hb1.mono (by have := HB.out.size; simp; omega)))
          have HG1 := Lib.hid (((HG.out.alloc (.cells #[.int .i64 o0, .int .i64 o1, .int .i64 o2, .int .i64 o3] 37)).alloc (.cells #[.int .u64 (u : Nat), .int .u64 (v : Nat)] 23)).below hb1 (by have := HG.out.lt; simp; omega))
          have HX1 := Lib.hid (((Blk.new wr 37 #[.int .i64 o0, .int .i64 o1, .int .i64 o2, .int .i64 o3]).alloc (.cells #[.int .u64 (u : Nat), .int .u64 (v : Nat)] 23)).below hb1 (by simp; omega))
          have xs1 : wr.heap.size < w1.heap.size := HX1.out.lt
          have x10 : w1.cell? ⟨wr.heap.size, 0, none⟩ = some (.int .i64 o0) := by simpa using HX1.out.cell 0
          have x11 : w1.cell? ⟨wr.heap.size, 1, none⟩ = some (.int .i64 o1) := by simpa using HX1.out.cell 1
          have x12 : w1.cell? ⟨wr.heap.size, 2, none⟩ = some (.int .i64 o2) := by simpa using HX1.out.cell 2
          have x13 : w1.cell? ⟨wr.heap.size, 3, none⟩ = some (.int .i64 o3) := by simpa using HX1.out.cell 3
          clear hb1
          go_wp2_with fail
          have b2w := Lib.hid (show Below w.heap.size w (w1.alloc (.cells #[.int .u64 (u : Nat), .int .u64 (v : Nat)] 23)) from HB1.out.alloc HB1.out.size _)
          refine (Eval_any o1 _ 2 2 [u, v] _ (by omega) (by omega) (src2 rfl u v) (all2 hu hv) (HT.out.below b2w.out HT.out.2.2)).mono ?_
          rintro e w2 ⟨rfl, hb2⟩
          rw [E1.out]
          have HB2 := Lib.hid (b2w.out.trans (hb2.mono (by have := HB.out.size; have := HB1.out.size; simp; omega)))
          have HG2 := Lib.hid ((HG1.out.alloc (.cells #[.int .u64 (u : Nat), .int .u64 (v : Nat)] 23)).below hb2 (by have := HG1.out.lt; simp; omega))
          have HX2 := Lib.hid ((HX1.out.alloc (.cells #[.int .u64 (u : Nat), .int .u64 (v : Nat)] 23)).below hb2 (by have := HX1.out.lt; simp; omega))
          have xs2 : wr.heap.size < w2.heap.size := HX2.out.lt
          have x20 : w2.cell? ⟨wr.heap.size, 0, none⟩ = some (.int .i64 o0) := by simpa using HX2.out.cell 0
          have x21 : w2.cell? ⟨wr.heap.size, 1, none⟩ = some (.int .i64 o1) := by simpa using HX2.out.cell 1
          have x22 : w2.cell? ⟨wr.heap.size, 2, none⟩ = some (.int .i64 o2) := by simpa using HX2.out.cell 2
          have x23 : w2.cell? ⟨wr.heap.size, 3, none⟩ = some (.int .i64 o3) := by simpa using HX2.out.cell 3
          clear hb2
          go_wp2
          exact ⟨⟨k + 1, by omega, by simp, HG2, HB2⟩, by simp [intOf]; omega⟩
        · have uu : ((u : Int) != (u : Int)) = false := by simp
          have E2 := Lib.hid g2
          have E3 := Lib.hid g3
          clear g2 g3
          have E0 := Lib.hid g0
          have E1 := Lib.hid g1
          clear HR h0 g0 g1
          go_wp2_with fail
          have b1w := Lib.hid (show Below w.heap.size w ((wr.alloc (.cells #[.int .i64 o0, .int .i64 o1, .int .i64 o2, .int .i64 o3] 37)).alloc (.cells #[.int .u64 (u : Nat), .int .u64 (v : Nat)] 23)) from (HB.out.alloc HB.out.size _).alloc (by have := HB.out.size; simp; omega) _)
          refine (Eval_any o0 _ 2 2 [u, v] _ (by omega) (by omega) (src2 (by simp) u v) (all2 hu hv) (HT.out.below b1w.out HT.out.2.2)).mono ?_
          rintro e w1 ⟨rfl, hb1⟩
          rw [E0.out]
          have HB1 := Lib.hid (b1w.out.trans (hb1.mono (by have := HB.out.size; simp; omega)))
          have HG1 := Lib.hid (((HG.out.alloc (.cells #[.int .i64 o0, .int .i64 o1, .int .i64 o2, .int .i64 o3] 37)).alloc (.cells #[.int .u64 (u : Nat), .int .u64 (v : Nat)] 23)).below hb1 (by have := HG.out.lt; simp; omega))
          have HX1 := Lib.hid (((Blk.new wr 37 #[.int .i64 o0, .int .i64 o1, .int .i64 o2, .int .i64 o3]).alloc (.cells #[.int .u64 (u : Nat), .int .u64 (v : Nat)] 23)).below hb1 (by simp; omega))
          have xs1 : wr.heap.size < w1.heap.size := HX1.out.lt
          have x10 : w1.cell? ⟨wr.heap.size, 0, none⟩ = some (.int .i64 o0) := by simpa using HX1.out.cell 0
          have x11 : w1.cell? ⟨wr.heap.size, 1, none⟩ = some (.int .i64 o1) := by simpa using HX1.out.cell 1
          have x12 : w1.cell? ⟨wr.heap.size, 2, none⟩ = some (.int .i64 o2) := by simpa using HX1.out.cell 2
          have x13 : w1.cell? ⟨wr.heap.size, 3, none⟩ = some (.int .i64 o3) := by simpa using HX1.out.cell 3
          clear hb1
          go_wp2_with fail
          have b2w := Lib.hid (show Below w.heap.size w (w1.alloc (.cells #[.int .u64 (u : Nat), .int .u64 (v : Nat)] 23)) from HB1.out.alloc HB1.out.size _)
          refine (Eval_any o1 _ 2 2 [u, v] _ (by omega) (by omega) (src2 rfl u v) (all2 hu hv) (HT.out.below b2w.out HT.out.2.2)).mono ?_
          rintro e w2 ⟨rfl, hb2⟩
          rw [E1.out]
          have HB2 := Lib.hid (b2w.out.trans (hb2.mono (by have := HB.out.size; have := HB1.out.size; simp; omega)))
          have HG2 := Lib.hid ((HG1.out.alloc (.cells #[.int .u64 (u : Nat), .int .u64 (v : Nat)] 23)).below hb2 (by have := HG1.out.lt; simp; omega))
          have HX2 := Lib.hid ((HX1.out.alloc (.cells #[.int .u64 (u : Nat), .int .u64 (v : Nat)] 23)).below hb2 (by have := HX1.out.lt; simp; omega))
          have xs2 : wr.heap.size < w2.heap.size := HX2.out.lt
          have x20 : w2.cell? ⟨wr.heap.size, 0, none⟩ = some (.int .i64 o0) := by simpa using HX2.out.cell 0
          have x21 : w2.cell? ⟨wr.heap.size, 1, none⟩ = some (.int .i64 o1) := by simpa using HX2.out.cell 1
          have x22 : w2.cell? ⟨wr.heap.size, 2, none⟩ = some (.int .i64 o2) := by simpa using HX2.out.cell 2
          have x23 : w2.cell? ⟨wr.heap.size, 3, none⟩ = some (.int .i64 o3) := by simpa using HX2.out.cell 3
          clear hb2
          go_wp2_with fail
          have b3w := Lib.hid (show Below w.heap.size w (w2.alloc (.cells #[.int .u64 (q : Nat), .int .u64 (v : Nat)] 23)) from HB2.out.alloc HB2.out.size _)
          refine (Eval_any o2 _ 2 2 [q, v] _ (by omega) (by omega) (src2 rfl q v) (all2 hq hv) (HT.out.below b3w.out HT.out.2.2)).mono ?_
          rintro e w3 ⟨rfl, hb3⟩
          rw [E2.out]
          have HB3 := Lib.hid (b3w.out.trans (hb3.mono (by have := HB.out.size; have := HB2.out.size; simp; omega)))
          have HG3 := Lib.hid ((HG2.out.alloc (.cells #[.int .u64 (q : Nat), .int .u64 (v : Nat)] 23)).below hb3 (by have := HG2.out.lt; simp; omega))
          have HX3 := Lib.hid ((HX2.out.alloc (.cells #[.int .u64 (q : Nat), .int .u64 (v : Nat)] 23)).below hb3 (by have := HX2.out.lt; simp; omega))
          have xs3 : wr.heap.size < w3.heap.size := HX3.out.lt
          have x30 : w3.cell? ⟨wr.heap.size, 0, none⟩ = some (.int .i64 o0) := by simpa using HX3.out.cell 0
          have x31 : w3.cell? ⟨wr.heap.size, 1, none⟩ = some (.int .i64 o1) := by simpa using HX3.out.cell 1
          have x32 : w3.cell? ⟨wr.heap.size, 2, none⟩ = some (.int .i64 o2) := by simpa using HX3.out.cell 2
          have x33 : w3.cell? ⟨wr.heap.size, 3, none⟩ = some (.int .i64 o3) := by simpa using HX3.out.cell 3
          clear hb3
          go_wp2_with fail
          have b4w := Lib.hid (show Below w.heap.size w (w3.alloc (.cells #[.int .u64 (p : Nat), .int .u64 (r : Nat)] 23)) from HB3.out.alloc HB3.out.size _)
          refine (Eval_any o3 _ 2 2 [p, r] _ (by omega) (by omega) (src2 rfl p r) (all2 hp hr) (HT.out.below b4w.out HT.out.2.2)).mono ?_
          rintro e w4 ⟨rfl, hb4⟩
          rw [E3.out]
          have HB4 := Lib.hid (b4w.out.trans (hb4.mono (by have := HB.out.size; have := HB3.out.size; simp; omega)))
          have HG4 := Lib.hid ((HG3.out.alloc (.cells #[.int .u64 (p : Nat), .int .u64 (r : Nat)] 23)).below hb4 (by have := HG3.out.lt; simp; omega))
          have HX4 := Lib.hid ((HX3.out.alloc (.cells #[.int .u64 (p : Nat), .int .u64 (r : Nat)] 23)).below hb4 (by have := HX3.out.lt; simp; omega))
          have xs4 : wr.heap.size < w4.heap.size := HX4.out.lt
          have x40 : w4.cell? ⟨wr.heap.size, 0, none⟩ = some (.int .i64 o0) := by simpa using HX4.out.cell 0
          have x41 : w4.cell? ⟨wr.heap.size, 1, none⟩ = some (.int .i64 o1) := by simpa using HX4.out.cell 1
          have x42 : w4.cell? ⟨wr.heap.size, 2, none⟩ = some (.int .i64 o2) := by simpa using HX4.out.cell 2
          have x43 : w4.cell? ⟨wr.heap.size, 3, none⟩ = some (.int .i64 o3) := by simpa using HX4.out.cell 3
          clear hb4
          go_wp2
          exact ⟨⟨k + 1, by omega, by simp, HG4, HB4⟩, by simp [intOf]; omega⟩
    · obtain rfl : k = 4 := by omega
      have HTZ := Lib.hid (HT.out.below HB.out HT.out.2.2)
      go_wp2_with fail
      refine (alive_any _ HTZ.out).mono ?_
      rintro e w5 ⟨rfl, hb5⟩
      have HB5 := Lib.hid (HB.out.trans (hb5.mono HB.out.size))
      clear hb5
      go_wp2
      go_ret
      exact ⟨rfl, HB5.out⟩
end Go.Proofs.YtpfbdaemdghogaaDoor
