/-
  The statement LebSmall: numbers of 32 bits are read as such, and as ones of 64: the law answers true at every input.
  Conditions: none.
-/
import Derived.Test.YtlfbmpbnmakacaaPlain3
namespace Go.Proofs.Ytlfbmpbnmakacaa
open Go.RowKit Go.Bk Go.Bk.Leb

theorem allU {n : Int} : AllB (putU n) := allB_putG lastU 9 n
theorem allS {n : Int} : AllB (putS n) := allB_putG lastS 9 n

theorem grow_size {w w' : World} {o : Obj} (hb : Below (w.alloc o).heap.size (w.alloc o) w') : w.heap.size < w'.heap.size := by
  have := hb.size
  simp at this
  omega

theorem PutU_nil (m : Int) (w : World) (hfit : FitU 9 m) :
    Calls Try.prog 10 #[.slice none 0 0, .int .u64 m] w fun e w' => ∃ A c, e = .returned (.slice A (putU m).length c) ∧ (putU m).length ≤ c ∧ Src w' A (putU m).length (bys (putU m)) ∧ Below w.heap.size w w' := by
  refine (PutU_any none 0 0 [] m w (Src.nil _ _) (fun _ => ⟨rfl, rfl⟩) (by omega) hfit).mono ?_
  rintro e w' ⟨v, rfl, hown, hb⟩
  rw [List.nil_append] at hown
  obtain ⟨A, c, rfl, hc⟩ := own_shape hown
  exact ⟨A, c, rfl, hc, Src.of_own hown, hb⟩
theorem PutS_nil (m : Int) (w : World) (hfit : FitS 9 m) :
    Calls Try.prog 16 #[.slice none 0 0, .int .i64 m] w fun e w' => ∃ A c, e = .returned (.slice A (putS m).length c) ∧ (putS m).length ≤ c ∧ Src w' A (putS m).length (bys (putS m)) ∧ Below w.heap.size w w' := by
  refine (PutS_any none 0 0 [] m w (Src.nil _ _) (fun _ => ⟨rfl, rfl⟩) (by omega) hfit).mono ?_
  rintro e w' ⟨v, rfl, hown, hb⟩
  rw [List.nil_append] at hown
  obtain ⟨A, c, rfl, hc⟩ := own_shape hown
  exact ⟨A, c, rfl, hc, Src.of_own hown, hb⟩

set_option maxRecDepth 100000 in
set_option maxHeartbeats 2000000 in
theorem small_any (n : Nat) (w : World) (hn : n < 4294967296) :
    Calls Try.prog 6 #[.int .u32 n] w fun e w' => e = .returned (.bool true) ∧ Below w.heap.size w w' := by
  obtain ⟨m, hm⟩ : ∃ m : Int, wrap32 (n : Int) = m := ⟨_, rfl⟩
  have hm1 : -2147483648 ≤ m := by unfold wrap32 at hm; omega
  have hm2 : m < 2147483648 := by unfold wrap32 at hm; omega
  have hfu : FitU 9 (n : Int) := ⟨by omega, by omega⟩
  have hfs : FitS 9 m := ⟨by omega, by omega⟩
  have HRu1 := Lib.hid (readU_put32 [] [] n hn)
  have HRu2 := Lib.hid (readU_put [] [] n (by omega))
  have HRs1 := Lib.hid (readS_put32 [] [] m hm1 hm2)
  have HRs2 := Lib.hid (readS_put [] [] m (by omega) (by omega))
  simp only [List.nil_append, List.append_nil, List.length_nil, Nat.zero_add, faultV, Int.ofNat_zero] at HRu1 HRu2 HRs1 HRs2
  have hlu := (putU_lt n hfu).1
  have hls := (putS_lt m hfs).1
  go_enter Try.func6, Try.ntmps6
  go_wp2_with fail
  refine (PutU_nil _ _ hfu).mono ?_
  rintro e w1 ⟨A, ca, rfl, hca, hs, hb⟩
  have HS := Lib.hid hs
  have HB := Lib.hid hb
  clear hs hb
  go_wp2_with fail
  refine (PutS_nil _ _ hfs).mono ?_
  rintro e w2 ⟨B, cb, rfl, hcb, hs, hb⟩
  have HS2 := Lib.hid (HS.out.below hb (Nat.le_refl _))
  have HT := Lib.hid hs
  have HB2 := Lib.hid (HB.out.trans (hb.mono HB.out.size))
  clear hs hb HS HB
  go_wp2_with fail
  refine (U_any A _ ca _ 0 32 _ HS2.out allU hca (by omega)).mono ?_
  rintro e w3 ⟨rfl, hb⟩
  rw [HRu1.out]
  have HS := Lib.hid (HS2.out.below hb (Nat.le_refl _))
  have HT2 := Lib.hid (HT.out.below hb (Nat.le_refl _))
  have HB := Lib.hid (HB2.out.trans (hb.mono HB2.out.size))
  clear hb HS2 HT HB2
  go_wp2_with fail
  have HF := Lib.hid (FB.new w3 (.int .i64 0) (.int .i64 0) (.int .i64 0))
  have HS2 := Lib.hid (HS.out.below ((Below.refl _ _).alloc (Nat.le_refl _) (.cells #[.int .i64 0, .int .i64 0, .int .i64 0] 28)) (Nat.le_refl _))
  have HT := Lib.hid (HT2.out.below ((Below.refl _ _).alloc (Nat.le_refl _) (.cells #[.int .i64 0, .int .i64 0, .int .i64 0] 28)) (Nat.le_refl _))
  have HB2 := Lib.hid (HB.out.alloc HB.out.size (.cells #[.int .i64 0, .int .i64 0, .int .i64 0] 28))
  clear HS HT2 HB
  refine (S_any B _ cb _ 0 32 _ HT.out allS hcb (by omega)).mono ?_
  rintro e w4 ⟨rfl, hb⟩
  rw [HRs1.out]
  have HF1 := Lib.hid (HF.out.below hb (Nat.le_refl _))
  have HS := Lib.hid (HS2.out.below hb (Nat.le_refl _))
  have HT2 := Lib.hid (HT.out.below hb (Nat.le_refl _))
  have HB := Lib.hid (HB2.out.trans (hb.mono HB2.out.size))
  clear hb HF HS2 HT HB2
  go_wp2_with fail
  have HF2 := Lib.hid (FB.new w4 (.int .i64 0) (.int .i64 0) (.int .i64 0))
  have HF := Lib.hid (HF1.out.alloc (.cells #[.int .i64 0, .int .i64 0, .int .i64 0] 28))
  have HS2 := Lib.hid (HS.out.below ((Below.refl _ _).alloc (Nat.le_refl _) (.cells #[.int .i64 0, .int .i64 0, .int .i64 0] 28)) (Nat.le_refl _))
  have HT := Lib.hid (HT2.out.below ((Below.refl _ _).alloc (Nat.le_refl _) (.cells #[.int .i64 0, .int .i64 0, .int .i64 0] 28)) (Nat.le_refl _))
  have HB2 := Lib.hid (HB.out.alloc HB.out.size (.cells #[.int .i64 0, .int .i64 0, .int .i64 0] 28))
  clear HS HT2 HB HF1
  refine (U_any A _ ca _ 0 64 _ HS2.out allU hca (by omega)).mono ?_
  rintro e w5 ⟨rfl, hb⟩
  rw [HRu2.out]
  have HF1 := Lib.hid (HF.out.below hb (Nat.le_refl _))
  have HG1 := Lib.hid (HF2.out.below hb (Nat.le_refl _))
  have HT2 := Lib.hid (HT.out.below hb (Nat.le_refl _))
  have HB := Lib.hid (HB2.out.trans (hb.mono HB2.out.size))
  clear hb HF HF2 HS2 HT HB2
  go_wp2_with fail
  have HH := Lib.hid (FB.new w5 (.int .i64 0) (.int .i64 0) (.int .i64 0))
  have HF := Lib.hid (HF1.out.alloc (.cells #[.int .i64 0, .int .i64 0, .int .i64 0] 28))
  have HG := Lib.hid (HG1.out.alloc (.cells #[.int .i64 0, .int .i64 0, .int .i64 0] 28))
  have HT := Lib.hid (HT2.out.below ((Below.refl _ _).alloc (Nat.le_refl _) (.cells #[.int .i64 0, .int .i64 0, .int .i64 0] 28)) (Nat.le_refl _))
  have HB2 := Lib.hid (HB.out.alloc HB.out.size (.cells #[.int .i64 0, .int .i64 0, .int .i64 0] 28))
  clear HT2 HB HF1 HG1
  refine (S_any B _ cb _ 0 64 _ HT.out allS hcb (by omega)).mono ?_
  rintro e w6 ⟨rfl, hb⟩
  rw [HRs2.out]
  obtain ⟨f1, f2, f3⟩ := (HF.out.below hb (Nat.le_refl _)).cells
  obtain ⟨g1, g2, g3⟩ := (HG.out.below hb (Nat.le_refl _)).cells
  obtain ⟨k1, k2, k3⟩ := (HH.out.below hb (Nat.le_refl _)).cells
  have l1 := (HF.out.below hb (Nat.le_refl _)).lt
  have l2 := (HG.out.below hb (Nat.le_refl _)).lt
  have l3 := (HH.out.below hb (Nat.le_refl _)).lt
  have HB := Lib.hid (HB2.out.trans (hb.mono HB2.out.size))
  clear hb HF HG HH HT HB2
  have q1 : ((n : Int) == (n : Int)) = true := by simp
  have q2 : (m == m) = true := by simp
  have hl1 : w3.heap.size < w6.heap.size + 1 := by omega
  have hl2 : w4.heap.size < w6.heap.size + 1 := by omega
  have hl3 : w5.heap.size < w6.heap.size + 1 := by omega
  go_wp2_with fail
  refine (alive_any _).mono ?_
  rintro e w7 ⟨rfl, hb7⟩
  have HB7 := Lib.hid (((HB.out.alloc HB.out.size _).alloc (by have := HB.out.size; simp; omega) _).trans (hb7.mono (by have := HB.out.size; simp; omega)))
  clear hb7
  go_wp2_with fail
  go_ret
  exact ⟨rfl, HB7.out⟩

theorem small_walk (a0 : Int) (w0 : (Lit.int .u32 a0).wf = true) (w : World) :
    Calls Try.prog 6 #[.int .u32 a0] w fun e w' => e = .returned (.bool true) ∧ Below w.heap.size w w' := by
  obtain ⟨h0, h1⟩ := u32_bounds w0
  obtain ⟨n, rfl⟩ := Int.eq_ofNat_of_zero_le h0
  exact small_any n w (by omega)
end Go.Proofs.Ytlfbmpbnmakacaa
