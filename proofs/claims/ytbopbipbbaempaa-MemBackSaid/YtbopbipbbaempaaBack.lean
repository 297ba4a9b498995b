/-
  MemBack: what the statement's function answers.
  Conditions: the slice is within the row's own reach.
-/
import Derived.Test.YtbopbipbbaempaaBack0
import Derived.Test.YtbopbipbbaempaaAccs
namespace Go.Proofs.Ytbopbipbbaempaa
open Go.RowKit Go.Bk Go.Bk.Mem Go.Shelf

theorem low_key {N wn x : Nat} (hx : N % 256 ^ wn = x) (hN : N < 18446744073709551616) (hw : wn = 1 ∨ wn = 2 ∨ wn = 4 ∨ wn = 8) :
    (decide ((wn : Int) < 8) = true ∧ ((x : Int) != bits .and .u64 (N : Int) (IntKind.u64.wrap (IntKind.u64.wrap (2 ^ (8 * wn)) - 1))) = false) ∨ (decide ((wn : Int) < 8) = false ∧ ((x : Int) != (N : Int)) = false) := by
  have fin : ∀ j : Nat, j ≤ 32 → N % 2 ^ j = x → bits .and .u64 (N : Int) ((2 ^ j - 1 : Nat) : Int) = (x : Int) := by
    intro j hj h
    have h1 : 2 ^ j ≤ 2 ^ 32 := Nat.pow_le_pow_right (by omega) hj
    rw [bits_and_u64_nat N (2 ^ j - 1) hN (by omega), Nat.and_two_pow_sub_one_eq_mod, h]
  rcases hw with rfl | rfl | rfl | rfl
  · exact .inl ⟨rfl, by have := fin 8 (by omega) hx; rw [show IntKind.u64.wrap (IntKind.u64.wrap (2 ^ (8 * 1)) - 1) = ((2 ^ 8 - 1 : Nat) : Int) from by decide, this]; simp⟩
  · exact .inl ⟨rfl, by have := fin 16 (by omega) hx; rw [show IntKind.u64.wrap (IntKind.u64.wrap (2 ^ (8 * 2)) - 1) = ((2 ^ 16 - 1 : Nat) : Int) from by decide, this]; simp⟩
  · exact .inl ⟨rfl, by have := fin 32 (by omega) hx; rw [show IntKind.u64.wrap (IntKind.u64.wrap (2 ^ (8 * 4)) - 1) = ((2 ^ 32 - 1 : Nat) : Int) from by decide, this]; simp⟩
  · exact .inr ⟨rfl, by rw [Nat.mod_eq_of_lt (by omega)] at hx; simp [hx]⟩
def BkRel (w0 : World) (L : Nat) (i : Value) (wr : World) : Prop := ∃ k : Nat, k ≤ L ∧ i = .int .i64 k ∧ Hid (Below w0.heap.size w0 wr)

set_option maxRecDepth 100000 in
set_option maxHeartbeats 4000000 in
theorem back_bad (w : World) (A : Option Addr) (n c addr of N : Nat) (op : Int) (m : List Nat) (hs : Bk.Src w A n (bys m)) (hA : A = none → n = 0 ∧ c = 0) (hn : n ≤ 140737488355328) (ha : addr < 18446744073709551616) (ho : of < 18446744073709551616) (hN : N < 18446744073709551616)
    (hE : storeE n op addr of N ≠ 0) :
    Calls Try.prog 9 #[.slice A n c, .agg #[.int .i64 op, .int .u64 addr, .int .u64 of, .int .u64 N]] w fun e w' => e = .returned (.bool true) ∧ Below w.heap.size w w' := by
  have hb0 := Lib.hid (show Below w.heap.size w (w.alloc (.cells #[.int .i64 op, .int .u64 addr, .int .u64 of, .int .u64 N] 25)) from (Below.refl _ _).alloc (Nat.le_refl _) _)
  have HS := Lib.hid (hs.below hb0.out (Nat.le_refl _))
  have HA := Lib.hid hA
  clear hs hA
  obtain ⟨E, hEE⟩ : ∃ E, storeE n op addr of N = E := ⟨_, rfl⟩
  rw [hEE] at hE
  have hne : (E != 0) = true := by simpa using hE
  have HE := Lib.hid hEE
  clear hE hEE
  obtain ⟨a, b, cc, d, HT⟩ := accTuple_parts op
  replace HT := Lib.hid HT
  go_enter Try.func9, Try.ntmps9
  go_wp2_with fail
  refine (Store_any A n c addr of N op m _ HS.out HA.out hn ha ho hN).mono ?_
  rintro e w1 ⟨A1, c1, rfl, _, hb1⟩
  rw [HE.out]
  obtain ⟨hc1, hf1⟩ := bcell hb1
  have hz1 : w.heap.size < w1.heap.size := by have := hb1.size; simp at this; omega
  have HB1 := Lib.hid (hb0.out.trans (hb1.mono (by simp)))
  clear hb1
  go_wp2_with fail
  refine (Access_any op _).mono ?_
  rintro e w2 ⟨rfl, hb2⟩
  rw [HT.out]
  have HB2 := Lib.hid (HB1.out.trans (hb2.mono HB1.out.size))
  clear hb2 hc1 hf1
  go_wp2_with fail
  refine (alive_any _).mono ?_
  rintro e w4 ⟨rfl, hb4⟩
  have HB4 := Lib.hid (HB2.out.trans (hb4.mono HB2.out.size))
  clear hb4
  go_wp2
  go_ret
  exact ⟨rfl, HB4.out⟩

set_option maxRecDepth 100000 in
set_option maxHeartbeats 4000000 in
theorem back_ok (w : World) (A : Option Addr) (n c addr of N wn : Nat) (op k : Int) (sg : Bool) (m : List Nat) (hs : Bk.Src w A n (bys m)) (hB : AllB m) (hA : A = none → n = 0 ∧ c = 0) (hn : n ≤ 140737488355328) (ha : addr ≤ 4294967295) (ho : of ≤ 4294967295) (hN : N < 18446744073709551616)
    (hE : storeE n op addr of N = 0) (hacc : acc op = some (k, (wn : Int), true, sg)) (hw : wn = 1 ∨ wn = 2 ∨ wn = 4 ∨ wn = 8) (hwo : wdOf op = wn) (hat : addr + of + wn ≤ n) :
    Calls Try.prog 9 #[.slice A n c, .agg #[.int .i64 op, .int .u64 addr, .int .u64 of, .int .u64 N]] w fun e w' => e = .returned (.bool true) ∧ Below w.heap.size w w' := by
  have hml : m.length = n := by have := hs.1; rwa [bys_len] at this
  have hb0 := Lib.hid (show Below w.heap.size w (w.alloc (.cells #[.int .i64 op, .int .u64 addr, .int .u64 of, .int .u64 N] 25)) from (Below.refl _ _).alloc (Nat.le_refl _) _)
  have HS := Lib.hid (hs.below hb0.out (Nat.le_refl _))
  have HA := Lib.hid hA
  have HM := Lib.hid hml
  have HE := Lib.hid hE
  have HST := Lib.hid (show storeM m op addr of N = putB m (addr + of) N wn by simp [storeM, hml, hE, hwo])
  have HLD := Lib.hid (show loadV (storeM m op addr of N) (opOf wn) addr of = (((N % 256 ^ wn : Nat) : Int), 0) from load_back (by rw [hml]; exact hE) hwo hw)
  have HT := Lib.hid (show accTuple op = .tuple #[.int .i64 k, .int .i64 wn, .bool true, .bool true] by simp [accTuple, hacc])
  have hw1 : 1 ≤ wn := by omega
  have hw8 : wn ≤ 8 := by omega
  have hlk := bk_look hw
  have hmm : ∀ (t : TypeId) (w : World), (Instr.makeMap t none).run Try.prog w = .ok (.map (some w.heap.size)) (w.alloc (bkL 0)) := fun _ _ => rfl
  have i0 := bk0
  have i1 := bk1
  have i2 := bk2
  have i3 := bk3
  have HW := Lib.hid hw
  clear hs hA hml hE hacc hwo hw
  go_enter Try.func9, Try.ntmps9
  go_wp2_with fail
  refine (Store_any A n c addr of N op m _ HS.out HA.out hn (by omega) (by omega) hN).mono ?_
  rintro e w1 ⟨A1, c1, rfl, ho1, hb1⟩
  rw [HE.out]
  rw [HST.out] at ho1 HLD
  rw [HST.out]
  have hL : (putB m (addr + of) N wn).length = n := by rw [putB_len, HM.out]
  rw [hL] at ho1
  rw [hL]
  obtain ⟨hc1, hf1⟩ := bcell hb1
  have hz1 : w.heap.size < w1.heap.size := by have := hb1.size; simp at this; omega
  have HB1 := Lib.hid (hb0.out.trans (hb1.mono (by simp)))
  have HS1 := Lib.hid (HS.out.below hb1 (Nat.le_refl _))
  have HO1 := Lib.hid (Bk.Src.of_own ho1)
  obtain ⟨_, _, e, hnc1⟩ := own_shape ho1
  have hcc : n ≤ c1 := by injection e with _ _ e; omega
  have HCX := Lib.hid (hc1 w.heap.size)
  clear hb1 ho1 hL e hnc1
  go_wp2_with fail
  refine (Access_any op _).mono ?_
  rintro e w2 ⟨rfl, hb2⟩
  rw [HT.out]
  have hx1 := (hb2.cell (p := ⟨w.heap.size, 1, none⟩) hz1).trans (HCX.out 1 (by simp))
  have hx2 := (hb2.cell (p := ⟨w.heap.size, 2, none⟩) hz1).trans (HCX.out 2 (by simp))
  have hx3 := (hb2.cell (p := ⟨w.heap.size, 3, none⟩) hz1).trans (HCX.out 3 (by simp))
  simp at hx1 hx2 hx3
  have hz2 : w.heap.size < w2.heap.size := Nat.lt_of_lt_of_le hz1 hb2.size
  have HB2 := Lib.hid (show Below w.heap.size w (w2.alloc (bkL 4)) from (HB1.out.trans (hb2.mono HB1.out.size)).alloc (Nat.le_of_lt hz2) _)
  have hb2' := hb2.alloc hb2.size (bkL 4)
  have HS2 := Lib.hid (HS1.out.below hb2' (Nat.le_refl _))
  have HO2 := Lib.hid (HO1.out.below hb2' (Nat.le_refl _))
  clear hb2 hb2' hc1 hf1 HCX HS1 HO1
  go_wp2_with fail
  refine (Load_any A1 n c1 addr of (opOf wn) _ _ HO2.out (putB_all hB _ _ _) hcc hn (by omega) (by omega)).mono ?_
  rintro e w3 ⟨rfl, hb3⟩
  rw [HLD.out]
  have old : ∀ (j : Nat) (v : Value), w2.cell? ⟨w.heap.size, j, none⟩ = some v → w3.cell? ⟨w.heap.size, j, none⟩ = some v := fun j v h =>
    (hb3.cell (p := ⟨w.heap.size, j, none⟩) (by simp; omega)).trans ((World.cell?_alloc_lt _ _ _ hz2).trans h)
  have hu1 := old 1 _ hx1
  have hu2 := old 2 _ hx2
  have hu3 := old 3 _ hx3
  have hz3 : w.heap.size < w3.heap.size := by have := hb3.size; simp at this; omega
  have HB3 := Lib.hid (HB2.out.trans (hb3.mono HB2.out.size))
  have HS3 := Lib.hid (HS2.out.below hb3 (Nat.le_refl _))
  have HO3 := Lib.hid (HO2.out.below hb3 (Nat.le_refl _))
  clear hb3 old hx1 hx2 hx3 HS2 HO2 HB2 HLD
  obtain ⟨x, HX⟩ : ∃ x, N % 256 ^ wn = x := ⟨_, rfl⟩
  rw [HX]
  have key : (decide ((wn : Int) < 8) = true ∧ ((x : Int) != bits .and .u64 (N : Int) (IntKind.u64.wrap (IntKind.u64.wrap (2 ^ (8 * wn)) - 1))) = false) ∨ (decide ((wn : Int) < 8) = false ∧ ((x : Int) != (N : Int)) = false) := low_key HX hN HW.out
  replace HX := Lib.hid HX
  have HBE := Lib.hid (Below.refl w3.heap.size w3)
  rcases key with ⟨g1, g2⟩ | ⟨g1, g2⟩
  all_goals
    go_wp2_with fail
    go_loopw [93] (fun i wr => BkRel w3 n i wr) (fun i _ => n + 1 - (intOf i).toNat)
    case atStart => exact ⟨0, by omega, rfl, HBE⟩
    case round =>
      obtain ⟨k, hk, rfl, HBK⟩ := hrel
      clear g1 g2
      by_cases hlt : k < n
      · have hlt' : decide ((k : Int) < (n : Int)) = true := by simpa using hlt
        have HSK := Lib.hid (HS3.out.below HBK.out (Nat.le_refl _))
        have HOK := Lib.hid (HO3.out.below HBK.out (Nat.le_refl _))
        obtain ⟨b1, o1, rfl, _⟩ := HSK.out.addr (by omega)
        obtain ⟨b2, o2, rfl, _⟩ := HOK.out.addr (by omega)
        have hce1 := HSK.out.at_ hlt
        have hce2 := HOK.out.at_ hlt
        rw [bys_get] at hce1 hce2
        have hx1 := (HBK.out.cell (p := ⟨w.heap.size, 1, none⟩) hz3).trans hu1
        have hx2 := (HBK.out.cell (p := ⟨w.heap.size, 2, none⟩) hz3).trans hu2
        have HG := Lib.hid (putB_get m (addr + of) N wn k (by rw [HM.out]; exact hlt))
        have HG1 := Lib.hid (show m.getD k 0 = m[k]'(by rw [HM.out]; exact hlt) from by simp [List.getD_eq_getElem?_getD, HM.out, hlt])
        have hkl : k < (putB m (addr + of) N wn).length := by rw [putB_len, HM.out]; exact hlt
        have HG2 := Lib.hid (show (putB m (addr + of) N wn).getD k 0 = (putB m (addr + of) N wn)[k]'hkl from by simp [List.getD_eq_getElem?_getD, hkl])
        clear hu1 hu2
        generalize m[k]'(by rw [HM.out]; exact hlt) = y1 at hce1 HG1
        generalize (putB m (addr + of) N wn)[k]'hkl = y2 at hce2 HG2
        by_cases h1 : k < addr + of
        · have q1 : decide ((k : Int) < (addr : Int) + (of : Int)) = true := by simp; omega
          obtain rfl : y1 = y2 := by rw [← HG1.out, ← HG2.out, HG.out, if_neg (by omega)]
          have hyy : ((y1 : Int) != (y1 : Int)) = false := by simp
          clear h1 HG HG1 HG2
          go_wp2_with fail
          go_quiet (fail)
          go_wp2
          exact ⟨⟨k + 1, by omega, by simp, Lib.hid (below_drewN HBK.out _)⟩, by simp [intOf]; omega⟩
        · have q1 : decide ((k : Int) < (addr : Int) + (of : Int)) = false := by simp; omega
          by_cases h2 : addr + of + wn ≤ k
          · have q2 : decide ((addr : Int) + (of : Int) + (wn : Int) ≤ (k : Int)) = true := by simp; omega
            obtain rfl : y1 = y2 := by rw [← HG1.out, ← HG2.out, HG.out, if_neg (by omega)]
            have hyy : ((y1 : Int) != (y1 : Int)) = false := by simp
            clear h1 h2 HG HG1 HG2
            go_wp2_with fail
            go_quiet (fail)
            go_wp2
            exact ⟨⟨k + 1, by omega, by simp, Lib.hid (below_drewN HBK.out _)⟩, by simp [intOf]; omega⟩
          · have q2 : decide ((addr : Int) + (of : Int) + (wn : Int) ≤ (k : Int)) = false := by simp; omega
            clear h1 h2 HG HG1 HG2
            go_wp2_with fail
            go_quiet (fail)
            go_wp2
            exact ⟨⟨k + 1, by omega, by simp, Lib.hid (below_drewN HBK.out _)⟩, by simp [intOf]; omega⟩
      · obtain rfl : k = n := by omega
        have HBZ := Lib.hid (HB3.out.trans (HBK.out.mono (Nat.le_of_lt hz3)))
        clear HBK hu1 hu2 hu3
        go_wp2_with fail
        refine (alive_any _).mono ?_
        rintro e w4 ⟨rfl, hb4⟩
        have HB4 := Lib.hid (HBZ.out.trans (hb4.mono HBZ.out.size))
        clear hb4
        go_wp2
        go_ret
        exact ⟨rfl, HB4.out⟩

theorem MemBack_true (w : World) (A : Option Addr) (n c : Nat) (zs : List Int) (hz : RowIn .u8 w A n c zs) (hreach : c * Try.prog.bytesOf 5 ≤ reachBytes) (op at_ off x : Int) (_ : (Lit.int .i64 op).wf = true) (hat : (Lit.int .u64 at_).wf = true)
    (hoff : (Lit.int .u64 off).wf = true) (hxx : (Lit.int .u64 x).wf = true) :
    Calls Try.prog 9 #[.slice A n c, .agg #[.int .i64 op, .int .u64 at_, .int .u64 off, .int .u64 x]] w fun e w' => e = .returned (.bool true) ∧ Below w.heap.size w w' := by
  obtain ⟨m, hs, hB, hnc, hA⟩ := hz.bytes
  have hn : n ≤ 140737488355328 := reach_len hnc hreach
  obtain ⟨ha1, ha2⟩ := u64_bounds hat
  obtain ⟨addr, rfl⟩ := Int.eq_ofNat_of_zero_le ha1
  obtain ⟨ho1, ho2⟩ := u64_bounds hoff
  obtain ⟨of, rfl⟩ := Int.eq_ofNat_of_zero_le ho1
  obtain ⟨hx1, hx2⟩ := u64_bounds hxx
  obtain ⟨N, rfl⟩ := Int.eq_ofNat_of_zero_le hx1
  by_cases h : storeE n op addr of N = 0
  · obtain ⟨k, wn, sg, h1, h2, h3, h4, h5, h6⟩ := storeE_zero h
    exact back_ok w A n c addr of N wn op k sg m hs hB hA hn h4 h5 (by omega) h h1 h2 h6 h3
  · exact back_bad w A n c addr of N op m hs hA hn (by omega) (by omega) (by omega) h
end Go.Proofs.Ytbopbipbbaempaa
